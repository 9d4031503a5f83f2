/-
  The lone walks (part 9). No condition.
-/
import Derived.Test.YtdpfknhenjngcaaGreatDoorRows
import Derived.Test.YtdpfknhenjngcaaGreatDoorZ3
import Derived.WalkKit
import Derived.WalkSpells
import Derived.WalkLawsBesides
import Derived.OrdersHeld
import Derived.Maps.AppendAt
import Derived.Laws.CopyRow
import Derived.Laws.Cells
import Derived.Laws.Rows
import Derived.IntWalk
import Derived.Laws.StructEq
import Derived.MapKept
set_option linter.unusedSimpArgs false
set_option linter.unusedVariables false
set_option linter.unusedSectionVars false
set_option maxRecDepth 100000
set_option maxHeartbeats 2000000
open Array renaming getD_eq_getD_getElem?→bS,getElem?_eq_none→ig,getElem?_setIfInBounds_ne→bt,replicate→cU,mapM_eq_foldlM→gm,foldlM_toList→iq,getElem?_eq_some_iff→ah,getElem?_modify→du,getElem?_push→bJ,foldl_toList→j0,toList_zipIdx→jB,length_toList→cA,toList_inj→bk,toList_map→nT
open BitVec renaming ofInt→aZ
open Bool renaming or_eq_true→iv,and_eq_true→aE,noConfusion→zHC
open Function renaming comp_def→vT
open Go renaming World→ai,Addr→cr,Value→aj,Program→aG,Oper→di,Exit→ni,wpOp_mono→xN,TypeId→au,typeInfo→dQ,sizeOf→jl,zeroValue→ee,isAgg→qz,asIntOf→nO,runtimePanic→cV,IntKind→cZ,BinOp→lu,TypeDesc→ia,loadCellsFrom→jM,loadVar→et,Operand→bp,execOp→bd,eqGuard→jG,maxLen→pR,info_parts→zd,heap_alloc_new→jZ,run_underlying→bB,FuncId→ck,ResultVar→mz,run_loadCells_list→uW
open Go.Act renaming put→rq
open Go.Builtin renaming len_→kJ,append_→oO,zeroCells→m7
open Go.Instr renaming sureAddr→bZ,indexAt→iP,index→kG,field→vD,extract→mI,sliceBound→jQ,sliceBounds→fy,slice→nI,sliceAt→iQ,makeInterface→jD,fieldAt→k9,build→iV,loadAt→eY,fill→eJ,findNow→lb,sameNow→DY,checkKey→nK,findKey→oE,lookup→ta,mapUpdate→mo
open Go.IntKind renaming i64→aL
open Go.MapKept renaming run_getObj_map→zH
open Go.Next renaming value→lZ
open Go.Op renaming intArith→pB,intDiv→qI,intBits→ub,intCmp→qH,shift→xk,stringOp→Bg,unary→A4,equal→rQ,equalIn→zFO
open Go.Oper renaming wp→lp
open Go.Region renaming Mode→vF,ready→kK,binds→nR,noSelect→zY,wanted→aR
open Go.Result renaming andThen_ok→bc
open Go.Result.ok renaming injEq→fT
open Go.RowKit renaming Below→cE
open Go.RowKit.Below renaming refl→bO
open Go.Value renaming int→eE,slice→dj
open Go.Value.slice renaming injEq→b9
open Int renaming tdiv_eq_ediv_of_nonneg→u1
open List renaming all_eq_true→ef,mem_cons_self→l8,mem_singleton→ki,mem_cons→bF,foldlM_cons→iE,getElem?_take→l7,getElem?_drop→kh,getD_eq_getElem?_getD→dq,map_toArray→lF,map_cons→dC,map_nil→pZ,eq_nil_of_length_eq_zero→cY,length_drop→iF,drop_take→uw,drop_drop→lD,all_map→Ht,mem_map→tc,getD→my,getElem?_eq_getElem→aW,replicate→aX,getElem?_cons_zero→bE,getElem?_cons_succ→gq,zipIdx_cons→xS,length_take→dm,take_succ_cons→jE,flatMap_cons→dc,drop_succ_cons→sU,take_take→Bz,getElem?_eq_some_iff→aO,getD_cons_succ→Db,length_cons→bP,length_nil→zX,getElem?_append_left→aQ,getElem?_eq_none→mO,getElem?_set_ne→cd,take_of_length_le→bq
open List.cons renaming injEq→iw
open Nat renaming le_refl→aA,le_trans→bD,lt_of_lt_of_le→aY,lt_or_ge→l5,mul_le_mul_right→br,add_mul→gj,zero_add→fQ,zero_le→bw,sub_mul→rX,add_comm→zm,add_zero→ey,beq→cQ,ble→hY,eq_of_beq_eq_true→bf,add_assoc→gT,succ_mul→jI,min_eq_left→eP
open Option renaming map_some→cO,map_eq_some_iff→aN,bind_eq_some_iff→cP
open Option.some renaming inj→fS,injEq→aF
open Prod.mk renaming injEq→bz
open Pure renaming pure→bN
open Bool renaming true→ae,false→aa
open Option renaming some→ab,none→ak
namespace Go.Proofs.YtdpfknhenjngcaaGreatDoor
section
open Go.RowKit
def Ex(p:Nat->Prop)(w w':ai):Prop:=w.heap.size<=w'.heap.size/\∀b,p b->b<w.heap.size->w'.heap[b]?=w.heap[b]?
theorem Ex.refl(p:Nat->Prop)(w:ai):Ex p w w:=⟨aA _,λ _ _ _=>rfl⟩
theorem Ex.trans{p:Nat->Prop}{a b c:ai}(h:Ex p a b)(k:Ex p b c):Ex p a c:=
 ⟨bD h.1 k.1,λ i hp hi=>(k.2 i hp (aY hi h.1)).trans (h.2 i hp hi)⟩
variable{p:Nat->Prop}{w w':ai}
theorem Ex.below(h:cE w.heap.size w w'):Ex p w w':=⟨h.size,λ b _ hb=>h.block b hb⟩
theorem Ex.alloc(p:Nat->Prop)(w:ai)(o:Obj):Ex p w (w.alloc o):=Ex.below ((bO _ _).alloc (aA _) o)
theorem Ex.grown{row:Option Nat}(h:w.grownBy w' row)(hr:∀k,row=ab k->k<w.heap.size->¬p k):Ex p w w':=
 ⟨h.size,λ b hp hb=>h.block b hb (λ e=>hr b e.symm hb hp)⟩
theorem Ex.set(w:ai)(q:cr)(u:aj)(hq:¬p q.block):Ex p w (w.setCell q u):=
 ⟨by simp[World.setCell],λ b hp _=>Below.heap_setCell _ _ _ _ (λ e=>hq (e▸hp))⟩
theorem Ex.zjr(q:cr)(u:aj)(hq:¬p q.block)(h:Ex p w w'):Ex p w (w'.setCell q u):=h.trans (Ex.set _ _ _ hq)
theorem Ex.drew{p:Nat->Prop}{w w':ai}(h:Ex p w w'):Ex p w w'.drew:=h.trans ⟨aA _,λ _ _ _=>rfl⟩
section
variable{P:aG}{ops:Array di}{Q:ni->Act->ai->Prop}{md:vF}{p:Nat->Prop}{late:Nat->Bool}
def PC(P:aG)(md:vF)(ops:Array di)(Q:ni->Act->ai->Prop)(p:Nat->Prop)(late:Nat->Bool):Nat->Array Bool->Act->ai->Prop
 |0,listed,a,w=>kK md ops listed=[]/\Q .normal a w
 |n+1,listed,a,w=>
  (kK md ops listed=[]->Q .normal a w)/\
  ∀i∈kK md ops listed,wpOp P ops Q i (λ a' w'=>(late i=aa->Ex p w w')/\PC P md ops Q p late n (listed.setIfInBounds i ae) a' w') a w
theorem VC:∀(fuel:Nat) (listed:Array Bool) (a:Act) (w:ai),PC P md ops Q p late fuel listed a w->wpAny P md ops Q fuel listed a w
 |0,_,_,_,h=>h
 |fuel+1,_,_,_,h=>⟨h.1,λ i hi=>xN (λ a' w' h'=>VC fuel _ a' w' h'.2) (h.2 i hi)⟩
theorem Sq{o:di}{v:aj}{a:Act}{w w':ai}(h:YieldsIf P ops (Ex p w) o v a)(hx:Ex p w w'):YieldsIf P ops (Ex p w') o v a:=
 h.imp (λ⟨hw,hv⟩=>⟨hw,λ w2 h2=>hv w2 (hx.trans h2)⟩) id
def E6(md:vF)(ops:Array di):Nat->Nat->Nat->Bool
 |0,_,_=>aa
 |n+1,j,i=>match ops[j]? with
  |some oj=>oj.after.any (λ e=>nR md e && e.on == i) || oj.after.any (λ e=>nR md e && E6 md ops n e.on i)
  |none=>aa
def Closed(md:vF)(ops:Array di)(listed:Array Bool):Prop:=
 ∀k ok,ops[k]?=ab ok->listed.getD k aa=ae->∀e∈ok.after,nR md e=ae->listed.getD e.on aa=ae
theorem Mo{listed:Array Bool}(hc:Closed md ops listed){i:Nat}:∀(n j:Nat) (oj:di),ops[j]?=ab oj->(∀e∈oj.after,nR md e=ae->listed.getD e.on aa=ae)->
  E6 md ops n j i=ae->listed.getD i aa=ae
 |0,_,_,_,_,h=>by cases h
 |n+1,j,oj,hj,hr,h=>by
  simp only[E6,hj,iv] at h
  rcases h with h|h
  ·obtain⟨e,he,hb⟩:=Array.any_eq_true'.1 h
   simp only[aE,beq_iff_eq] at hb
   exact hb.2▸hr e he hb.1
  ·obtain⟨e,he,hb⟩:=Array.any_eq_true'.1 h
   simp only[aE] at hb
   have hl:=hr e he hb.1
   cases ho:ops[e.on]? with
   |none=>
    have h2:=hb.2
    cases n<;>simp[E6,ho] at h2
   |some ok=>exact Mo hc n e.on ok ho (hc e.on ok ho hl) hb.2
variable{i:Nat}
theorem Closed.set{listed:Array Bool}(hc:Closed md ops listed)(hi:i∈kK md ops listed):Closed md ops (listed.setIfInBounds i ae):=by
 intro k ok hk hl e he hb
 have up:∀x,listed.getD x aa=ae->(listed.setIfInBounds i ae).getD x aa=ae:=by
  intro x hx
  by_cases hxi:i=x
  ·subst hxi
   simp only[bS,Array.getElem?_setIfInBounds_self] at hx ⊢
   split
   ·rfl
   ·rename_i h';simp[ig (Nat.le_of_not_lt h')] at hx
  ·simp only[bS,bt hxi];simpa using hx
 by_cases hki:i=k
 ·subst hki
  obtain⟨_,o,ho,hall⟩:=mem_ready.1 hi
  rw[hk] at ho
  obtain rfl:=fS ho
  exact up _ (hall e he hb)
 ·have:listed.getD k aa=ae:=by
   simp only[bS,bt hki] at hl
   simpa using hl
  exact up _ (hc k ok hk this e he hb)
theorem ZT(n:Nat):Closed md ops (cU n aa):=by
 intro k ok _ hl
 by_cases h:k<n<;>simp[h] at hl
theorem X3{oi:di}{v:aj}(hi:ops[i]?=ab oi)(zuH:∀(j:Nat) (o:di) cs b,ops[j]?=ab o->o.op≠.select cs b)
  (hQ:∀c a w,Q (.panic c) (a.put oi.dst v) w->Q (.panic c) a w)
  (n:Nat) (zvD:∀j,late j=ae->E6 md ops n j i=ae):
  ∀(fuel:Nat) (listed:Array Bool) (a:Act) (w:ai),Closed md ops listed->
   (∀j oj,ops[j]?=ab oj->j≠i->listed.getD j ae=aa->(∀e∈oj.after,nR md e=ae->e.on≠i)->oi.apart ops oj=ae)->
   i∈kK md ops listed->YieldsIf P ops (Ex p w) oi v a->
   PC P md ops Q p late fuel (listed.setIfInBounds i ae) (a.put oi.dst v) w->PC P md ops Q p late (fuel+1) listed a w:=by
 intro fuel
 induction fuel with
 |zero=>
  intro listed a w _ _ hr hy H
  refine⟨λ h=>(by rw[h] at hr;cases hr),λ j hj=>?_⟩
  by_cases hji:j=i
  ·subst hji;exact hy.wpOp hi (Ex.refl p w) ⟨λ _=>Ex.refl p w,H⟩
  ·have:=ready_mono hj hji
   rw[H.1] at this
   cases this
 |succ fuel ih=>
  intro listed a w X6 UJ hr hy H
  refine⟨λ h=>(by rw[h] at hr;cases hr),λ j hj=>?_⟩
  by_cases hji:j=i
  ·subst hji;exact hy.wpOp hi (Ex.refl p w) ⟨λ _=>Ex.refl p w,H⟩
  ·have h1:=H.2 j (ready_mono hj hji)
   obtain⟨zuC,oj,hoj,hall⟩:=mem_ready.1 hj
   have zzh:∀e∈oj.after,nR md e=ae->e.on≠i:=λ e he hb heq=>by
    have h1:=hall e he hb
    have h0:=(mem_ready.1 hr).1
    rw[heq] at h1
    rcases l5 i listed.size with h'|h'
    ·simp[h'] at h0 h1;rw[h0] at h1;cases h1
    ·simp[ig h'] at h1
   have hnl:late j=aa:=by
    cases hl:late j with
    |false=>rfl
    |true=>
     have h1:=Mo X6 n j oj hoj hall (zvD j hl)
     have h0:=(mem_ready.1 hr).1
     rcases l5 i listed.size with h'|h'
     ·simp[h'] at h0 h1;rw[h0] at h1;cases h1
     ·simp[ig h'] at h1
   have h2:=wpOp_putIf hoj (UJ j oj hoj hji zuC zzh) (λ cs b=>zuH i oi cs b hi) (λ cs b=>zuH j oj cs b hoj) hQ hy h1
   have zrM:∀k ok,ops[k]?=ab ok->k≠i->(listed.setIfInBounds j ae).getD k ae=aa->
     (∀e∈ok.after,nR md e=ae->e.on≠i)->oi.apart ops ok=ae:=λ k ok hk hki hun hno=>by
    refine UJ k ok hk hki ?_ hno
    by_cases hjk:j=k
    ·subst hjk;exact zuC
    ·rw[getD_set_ne ae hjk] at hun;exact hun
   refine xN (λ a' w' h3=>⟨h3.2.1,ih (listed.setIfInBounds j ae) a' w' (X6.set hj) zrM (ready_mono hr (dr hji)) (Sq h3.1 (h3.2.1 hnl)) ?_⟩) h2
   rw[Array.setIfInBounds_comm _ _ hji]
   exact h3.2.2
inductive Tr where
 |nil
 |op (i k:Nat) (t:Tr)
 |fork (i k:Nat) (t:Tr) (j l:Nat) (u:Tr)
def Tr.len:Tr->Nat
 |.nil=>0
 |.op _ _ t=>t.len+1
 |.fork _ _ t _ _ _=>t.len+1
def Tr.flat:Tr->List (Nat×Nat)
 |.nil=>[]
 |.op i k t=>(i,k)::t.flat
 |.fork i k t j l u=>(i,k)::(j,l)::(t.flat++u.flat)
def Gl(P:aG)(ops:Array di)(p:Nat->Prop)(Q:ni->Act->ai->Prop):Tr->Act->ai->Prop
 |.nil,a,w=>Q .normal a w
 |.op i 0 t,a,w=>∃o v,ops[i]?=ab o/\YieldsIf P ops (Ex p w) o v a/\Gl P ops p Q t (a.put o.dst v) w
 |.op i 1 t,a,w=>wpOp P ops Q i (λ a' w'=>Ex p w w'/\Gl P ops p Q t a' w') a w
 |.op i _ t,a,w=>wpOp P ops Q i (Gl P ops p Q t) a w
 |.fork i _ t j _ u,a,w=>wpOp P ops Q i (λ a' w'=>Ex p w w'/\Gl P ops p Q t a' w') a w/\wpOp P ops Q j (λ a' w'=>Ex p w w'/\Gl P ops p Q u a' w') a w
def oL(md:vF)(ops:Array di):Array Bool->Tr->Bool
 |listed,.nil=>kK md ops listed == []
 |listed,.op i 0 t=>(kK md ops listed).contains i && Region.free md ops listed i && oL md ops (listed.setIfInBounds i ae) t
 |listed,.op i _ t=>kK md ops listed == [i] && oL md ops (listed.setIfInBounds i ae) t
 |listed,.fork i _ t j _ u=>kK md ops listed == [i,j] && u.len == t.len && oL md ops (listed.setIfInBounds i ae) t && oL md ops (listed.setIfInBounds j ae) u
def Pv(md:vF)(ops:Array di)(C:List (Nat×Nat)):Bool:=
 C.all λ(j,k)=>k<=1 || C.all λ(i,k')=>k' != 0 || E6 md ops 3 j i
def JI(C:List (Nat×Nat))(j:Nat):Bool:=C.any λ(i,k)=>i == j && 2<=k
theorem Z3{C:List (Nat×Nat)}(h:Pv md ops C=ae)(hi:(i,0)∈C)(j:Nat)(hl:JI C j=ae):E6 md ops 3 j i=ae:=by
 simp only[JI,List.any_eq_true,aE,beq_iff_eq,decide_eq_true_eq] at hl
 obtain⟨⟨j',k⟩,hm,rfl,hk⟩:=hl
 simp only[Pv,ef,iv,decide_eq_true_eq] at h
 have h1:=h _ hm
 rcases h1 with h1|h1
 ·simp at hk;omega
 ·have h2:=h1 _ hi
  simpa using h2
theorem Uu(C0:List (Nat×Nat))(hs:zY ops=ae)(hl:Pv md ops C0=ae)
  (hQ:∀c a d v w,Q (.panic c) (a.put d v) w->Q (.panic c) a w):
  ∀(t:Tr) (listed:Array Bool) (a:Act) (w:ai),Closed md ops listed->(∀x∈t.flat,x∈C0)->oL md ops listed t=ae->Gl P ops p Q t a w->
   PC P md ops Q p (JI C0) t.len listed a w:=by
 intro t
 induction t with
 |nil=>intro listed a w _ _ hc h;exact⟨by simpa [oL] using hc,h⟩
 |op i k t ih=>
  intro listed a w X6 SK hc h
  have zhf:∀x∈t.flat,x∈C0:=λ x hx=>SK x (List.mem_cons_of_mem _ hx)
  match k,SK,hc,h with
  |0,SK,hc,h=>
   simp only[oL,aE] at hc
   obtain⟨⟨hr,hf⟩,hc⟩:=hc
   obtain⟨o,v,ho,hy,h⟩:=h
   exact X3 ho (Region.noSelect_spec hs) (λ c a w=>hQ c a _ v w) 3 (λ j hlj=>Z3 hl (SK _ (l8 ..)) j hlj)
    t.len listed a w X6 (Region.free_spec ho hf) (by simpa using hr) hy (ih _ _ _ (X6.set (by simpa using hr)) zhf hc h)
  |1,SK,hc,h=>
   simp only[oL,aE,beq_iff_eq] at hc
   refine⟨λ h0=>(by rw[hc.1] at h0;cases h0),λ j hj=>?_⟩
   rw[hc.1] at hj
   obtain rfl:=ki.1 hj
   exact xN (λ a' w' h'=>⟨λ _=>h'.1,ih _ _ _ (X6.set (by simp[hc.1])) zhf hc.2 h'.2⟩) h
  |k+2,SK,hc,h=>
   simp only[oL,aE,beq_iff_eq] at hc
   refine⟨λ h0=>(by rw[hc.1] at h0;cases h0),λ j hj=>?_⟩
   rw[hc.1] at hj
   obtain rfl:=ki.1 hj
   refine xN (λ a' w' h'=>⟨λ hn=>?_,ih _ _ _ (X6.set (by simp[hc.1])) zhf hc.2 h'⟩) h
   exact absurd (show JI C0 j=ae by
    simp only[JI,List.any_eq_true,aE,beq_iff_eq,decide_eq_true_eq]
    exact⟨_,SK _ (l8 ..),rfl,by simp⟩) (by simp[hn])
 |fork i k t j l u iht ihu=>
  intro listed a w X6 SK hc h
  simp only[oL,aE,beq_iff_eq] at hc
  obtain⟨⟨⟨hr,hlen⟩,h1⟩,h2⟩:=hc
  have dz:∀x∈t.flat,x∈C0:=λ x hx=>SK x (by simp[Tr.flat,hx])
  have hsu:∀x∈u.flat,x∈C0:=λ x hx=>SK x (by simp[Tr.flat,hx])
  refine⟨λ h0=>(by rw[hr] at h0;cases h0),λ x hx=>?_⟩
  rw[hr] at hx
  rcases bF.1 hx with rfl|hx
  ·exact xN (λ a' w' h'=>⟨λ _=>h'.1,iht _ _ _ (X6.set (by simp[hr])) dz h1 h'.2⟩) h.1
  ·obtain rfl:=ki.1 hx
   refine xN (λ a' w' h'=>⟨λ _=>h'.1,?_⟩) h.2
   have:=ihu _ _ _ (X6.set (by simp[hr])) hsu h2 h'.2
   rw[hlen] at this
   exact this
theorem jL{id:Nat}{a:Act}{w:ai}(p:Nat->Prop)(t:Tr)(hm:P.follows .mixedOrders=ae)(hn:t.len=ops.size)(hs:zY ops=ae)
  (hl:Pv .any ops t.flat=ae) (hc:oL .any ops (cU ops.size aa) t=ae)
  (hQ:∀c a d v w,Q (.panic c) (a.put d v) w->Q (.panic c) a w) (h:Gl P ops p Q t a w.drew):(Code.region id ops ae).wp P Q a w:=by
 refine wp_region_any hm (VC (p:=p) (late:=JI t.flat) _ _ _ _ ?_)
 have:=Uu (md:=.any) t.flat hs hl hQ t (cU ops.size aa) a w.drew (ZT _) (λ x hx=>hx) hc h
 rw[hn] at this
 exact this
end
def vd(P:aG){α:Type}:Sem α->Prop
 |.halt _=>True
 |.program k=>vd P (k P)
 |.mark _ k=>vd P k
 |.choose _ k=>∀n,vd P (k n)
 |.new _ k=>∀n,vd P (k n)
 |_=>False
def WF(P:aG){α:Type}:Sem α->Prop
 |.pure _=>True
 |.halt _=>True
 |.program k=>WF P (k P)
 |.mark _ k=>WF P k
 |.choose _ k=>∀n,vd P (k n)
 |.new _ k=>∀n,vd P (k n)
 |_=>False
section
variable{P:aG}{α β:Type}
theorem vd.JM:∀{s:Sem α},vd P s->∀{w w1:ai} {x:α},s.run P w≠.ok x w1:=by
 intro s
 induction s with
 |halt h=>intro _ w w1 x e;cases e
 |program k ih=>intro h w w1 x;exact ih P h
 |mark m k ih=>intro h w w1 x;exact ih h
 |choose q k ih=>
  intro h w w1 x
  simp only[Sem.run]
  split
  ·exact ih _ (h _)
  ·exact ih _ (h _)
 |new o k ih=>intro h w w1 x;exact ih _ (h _)
 |_=>intro h;exact h.elim
theorem vd.wf:∀{s:Sem α},vd P s->WF P s:=by
 intro s
 induction s with
 |halt h=>intro _;trivial
 |program k ih=>intro h;exact ih P h
 |mark m k ih=>intro h;exact ih h
 |choose q k ih=>intro h n;exact h n
 |new o k ih=>intro h n;exact h n
 |_=>intro h;exact h.elim
theorem vd.bind{f:α->Sem β}:∀{s:Sem α},vd P s->vd P (s.bind f):=by
 intro s
 induction s with
 |halt h=>intro _;trivial
 |program k ih=>intro h;exact ih P h
 |mark m k ih=>intro h;exact ih h
 |choose q k ih=>intro h n;exact ih n (h n)
 |new o k ih=>intro h n;exact ih n (h n)
 |_=>intro h;exact h.elim
theorem WF.bind{f:α->Sem β}:∀{s:Sem α},WF P s->(∀a,WF P (f a))->WF P (s >>= f):=by
 intro s
 show WF P s->_->WF P (s.bind f)
 induction s with
 |pure a=>intro _ hf;exact hf a
 |halt h=>intro _ _;trivial
 |program k ih=>intro h hf;exact ih P h hf
 |mark m k ih=>intro h hf;exact ih h hf
 |choose q k ih=>intro h hf n;exact(h n).bind
 |new o k ih=>intro h hf n;exact(h n).bind
 |_=>intro h;exact h.elim
theorem WF.run:∀{s:Sem α},WF P s->∀{w w1:ai} {x:α},s.run P w=.ok x w1->w1=w/\∀w',s.run P w'=.ok x w':=by
 intro s
 induction s with
 |pure a=>intro _ w w1 x e;simp only[Sem.run,fT] at e;obtain⟨rfl,rfl⟩:=e;exact⟨rfl,λ _=>rfl⟩
 |halt h=>intro _ w w1 x e;cases e
 |program k ih=>intro h w w1 x e;exact ih P h e
 |mark m k ih=>intro h w w1 x e;exact ih h e
 |choose q k ih=>
  intro h w w1 x e
  simp only[Sem.run] at e
  split at e<;>exact absurd e (h _).JM
 |new o k ih=>intro h w w1 x e;exact absurd e (h _).JM
 |_=>intro h;exact h.elim
theorem FB:WF P program:=trivial
theorem cp(t:au):WF P (underlying t):=by
 refine FB.bind λ p=>?_
 cases p.underlying t<;>exact trivial
theorem dF(t:au):WF P (dQ t):=by
 refine FB.bind λ p=>?_
 cases p.info? t<;>exact trivial
theorem eX(t:au):WF P (jl t):=(dF t).bind λ _=>trivial
theorem dy(t:au):WF P (ee t):=by
 refine(dF t).bind λ i=>?_
 cases i.zero<;>exact trivial
theorem iT(t:au):WF P (qz t):=by
 refine(cp t).bind λ d=>?_
 cases d<;>exact trivial
theorem lr(t:au)(cs:Array aj)(off:Nat):WF P (part t cs off):=by
 refine(iT t).bind λ b=>?_
 cases b
 ·show WF P (match cs[off]? with|some v=>(bN v:Sem aj)|none=>stuck "part: no such cell")
  cases cs[off]?<;>exact trivial
 ·exact(eX t).bind λ _=>trivial
theorem fp(v:aj):WF P (nO v):=by
 cases v<;>first|exact trivial|(rename_i a;cases a<;>exact trivial)
theorem gi(v:aj):WF P (asBool v):=by cases v<;>exact trivial
theorem ej(v:aj):WF P (asString v):=by cases v<;>exact trivial
theorem jA(v:aj):WF P (asAgg v):=by cases v<;>exact trivial
theorem WF.dies{f:α->Sem β}:∀{s:Sem α},WF P s->(∀a,vd P (f a))->vd P (s >>= f):=by
 intro s
 show WF P s->_->vd P (s.bind f)
 induction s with
 |pure a=>intro _ hf;exact hf a
 |halt h=>intro _ _;trivial
 |program k ih=>intro h hf;exact ih P h hf
 |mark m k ih=>intro h hf;exact ih h hf
 |choose q k ih=>intro h hf n;exact(h n).bind
 |new o k ih=>intro h hf n;exact(h n).bind
 |_=>intro h;exact h.elim
theorem Vz(t:au):WF P (elemOf t):=by
 refine(cp t).bind λ d=>?_
 cases d<;>exact trivial
theorem Mm{f:cr->Sem β}(t:au)(v:aj)(hf:∀a,vd P (f a)):vd P (newVar t v >>= f):=λ _=>hf _
theorem bR(e:RuntimeError):vd P (cV e:Sem α):=by
 refine FB.dies λ p=>?_
 cases e with
 |typeAssertion i c a m=>exact(Vz _).dies λ _=>Mm _ _ λ _=>trivial
 |panicNil=>exact(Vz _).dies λ _=>Mm _ _ λ _=>trivial
 |_=>exact trivial
theorem cN(k:cZ)(x y:Int)(c:BoundsCode):vd P (boundsPanic k x y c:Sem α):=by
 unfold boundsPanic
 dsimp only
 split
 ·exact λ n=>show vd P (cV (.bounds (aL.wrap x) y (n == 1) c):Sem α) from bR _
 ·exact show vd P (cV (.bounds (aL.wrap x) y (k != IntKind.u64) c):Sem α) from bR _
theorem dS(v:aj):WF P (bZ v):=by
 cases v<;>first|exact trivial|(rename_i a;cases a<;>exact trivial)
theorem zsr{c:Prop}[Decidable c]{x y:Sem α}(hx:WF P x)(hy:WF P y):WF P (if c then x else y):=by split<;>assumption
theorem zch(t:au)(x i:aj):WF P (iP t x i):=by
 unfold iP
 try dsimp only
 repeat' (first
  |exact trivial|exact cp _|exact dS _|exact eX _|exact fp _|exact gi _|exact ej _|exact jA _|exact lr _ _ _|exact dy _|exact dF _|exact iT _|exact(cN ..).wf|exact(bR ..).wf
  |(refine WF.bind ?_ λ _=>?_)|split|dsimp only)
theorem zku(t:au)(x i:aj):WF P (kG t x i):=by
 unfold kG
 try dsimp only
 repeat' (first
  |exact trivial|exact cp _|exact dS _|exact eX _|exact fp _|exact gi _|exact ej _|exact jA _|exact lr _ _ _|exact dy _|exact dF _|exact iT _|exact(cN ..).wf|exact(bR ..).wf
  |(refine WF.bind ?_ λ _=>?_)|split|dsimp only)
theorem zkt(t:au)(x:aj)(f:Nat):WF P (vD t x f):=by
 unfold vD
 try dsimp only
 repeat' (first
  |exact trivial|exact cp _|exact dS _|exact eX _|exact fp _|exact gi _|exact ej _|exact jA _|exact lr _ _ _|exact dy _|exact dF _|exact iT _|exact(cN ..).wf|exact(bR ..).wf
  |(refine WF.bind ?_ λ _=>?_)|split|dsimp only)
theorem zcg(x:aj)(i:Nat):WF P (mI x i):=by
 unfold mI
 try dsimp only
 repeat' (first
  |exact trivial|exact cp _|exact dS _|exact eX _|exact fp _|exact gi _|exact ej _|exact jA _|exact lr _ _ _|exact dy _|exact dF _|exact iT _|exact(cN ..).wf|exact(bR ..).wf
  |(refine WF.bind ?_ λ _=>?_)|split|dsimp only)
theorem Ut(x:aj)(y:Nat)(c:BoundsCode):WF P (jQ x y c):=by
 unfold jQ
 try dsimp only
 repeat' (first
  |exact trivial|exact cp _|exact dS _|exact eX _|exact fp _|exact gi _|exact ej _|exact jA _|exact lr _ _ _|exact dy _|exact dF _|exact iT _|exact(cN ..).wf|exact(bR ..).wf
  |(refine WF.bind ?_ λ _=>?_)|split|dsimp only)
theorem B7(b:Bool)(l c:Nat)(lo hi mx:Option aj):WF P (fy b l c lo hi mx):=by
 unfold fy
 try dsimp only
 repeat' (first
  |exact trivial|exact cp _|exact dS _|exact eX _|exact fp _|exact gi _|exact ej _|exact jA _|exact lr _ _ _|exact dy _|exact dF _|exact iT _|exact Ut _ _ _|exact(cN ..).wf|exact(bR ..).wf
  |(refine WF.bind ?_ λ _=>?_)|split|dsimp only)
theorem Vy(v:aj):WF P (asAddr v):=by
 cases v<;>first|exact trivial|(rename_i a;cases a<;>first|exact trivial|exact(bR ..).wf)
theorem zkw(t:au)(x:aj)(lo hi mx:Option aj):WF P (nI t x lo hi mx):=by
 unfold nI
 try dsimp only
 repeat' (first
  |exact trivial|exact cp _|exact dS _|exact eX _|exact fp _|exact gi _|exact ej _|exact jA _|exact lr _ _ _|exact dy _|exact dF _|exact iT _|exact B7 _ _ _ _ _ _|exact Vy _|exact(cN ..).wf|exact(bR ..).wf
  |(refine WF.bind ?_ λ _=>?_)|split|dsimp only)
theorem zci(t:au)(x:aj)(lo hi mx:Option aj):WF P (iQ t x lo hi mx):=by
 unfold iQ
 try dsimp only
 repeat' (first
  |exact trivial|exact cp _|exact dS _|exact eX _|exact fp _|exact gi _|exact ej _|exact jA _|exact lr _ _ _|exact dy _|exact dF _|exact iT _|exact B7 _ _ _ _ _ _|exact Vy _|exact zkw _ _ _ _ _|exact(cN ..).wf|exact(bR ..).wf
  |(refine WF.bind ?_ λ _=>?_)|split|dsimp only)
theorem Lw(t:au)(x:aj):WF P (jD t x):=by
 unfold jD
 try dsimp only
 repeat' (first
  |exact trivial|exact cp _|exact dS _|exact eX _|exact fp _|exact gi _|exact ej _|exact jA _|exact lr _ _ _|exact dy _|exact dF _|exact iT _|exact(cN ..).wf|exact(bR ..).wf
  |(refine WF.bind ?_ λ _=>?_)|split|dsimp only)
theorem MQ(o:lu)(k:cZ)(x y:Int):WF P (pB o k x y):=by
 unfold pB
 try dsimp only
 repeat' (first
  |exact trivial|exact cp _|exact dS _|exact eX _|exact fp _|exact gi _|exact ej _|exact jA _|exact lr _ _ _|exact dy _|exact dF _|exact iT _|exact(cN ..).wf|exact(bR ..).wf
  |(refine WF.bind ?_ λ _=>?_)|split|dsimp only)
theorem zfl(o:lu)(k:cZ)(x y:Int):WF P (qI o k x y):=by
 unfold qI
 try dsimp only
 repeat' (first
  |exact trivial|exact cp _|exact dS _|exact eX _|exact fp _|exact gi _|exact ej _|exact jA _|exact lr _ _ _|exact dy _|exact dF _|exact iT _|exact(cN ..).wf|exact(bR ..).wf
  |(refine WF.bind ?_ λ _=>?_)|split|dsimp only)
theorem QM(o:lu)(k:cZ)(x y:Int):WF P (ub o k x y):=by
 unfold ub
 try dsimp only
 repeat' (first
  |exact trivial|exact cp _|exact dS _|exact eX _|exact fp _|exact gi _|exact ej _|exact jA _|exact lr _ _ _|exact dy _|exact dF _|exact iT _|exact(cN ..).wf|exact(bR ..).wf
  |(refine WF.bind ?_ λ _=>?_)|split|dsimp only)
theorem zfk(o:lu)(x y:Int):WF P (qH o x y):=by
 unfold qH
 try dsimp only
 repeat' (first
  |exact trivial|exact cp _|exact dS _|exact eX _|exact fp _|exact gi _|exact ej _|exact jA _|exact lr _ _ _|exact dy _|exact dF _|exact iT _|exact(cN ..).wf|exact(bR ..).wf
  |(refine WF.bind ?_ λ _=>?_)|split|dsimp only)
theorem zkv(o:lu)(k:cZ)(x:Int)(k':cZ)(y:Int):WF P (xk o k x k' y):=by
 unfold xk
 try dsimp only
 repeat' (first
  |exact trivial|exact cp _|exact dS _|exact eX _|exact fp _|exact gi _|exact ej _|exact jA _|exact lr _ _ _|exact dy _|exact dF _|exact iT _|exact(cN ..).wf|exact(bR ..).wf
  |(refine WF.bind ?_ λ _=>?_)|split|dsimp only)
theorem zal(o:lu)(x y:ByteArray):WF P (Bg o x y):=by
 unfold Bg
 try dsimp only
 repeat' (first
  |exact trivial|exact cp _|exact dS _|exact eX _|exact fp _|exact gi _|exact ej _|exact jA _|exact lr _ _ _|exact dy _|exact dF _|exact iT _|exact(cN ..).wf|exact(bR ..).wf
  |(refine WF.bind ?_ λ _=>?_)|split|dsimp only)
theorem zkx(o:UnOp)(x:aj):WF P (A4 o x):=by
 unfold A4
 try dsimp only
 repeat' (first
  |exact trivial|exact cp _|exact dS _|exact eX _|exact fp _|exact gi _|exact ej _|exact jA _|exact lr _ _ _|exact dy _|exact dF _|exact iT _|exact MQ _ _ _ _|exact QM _ _ _ _|exact(cN ..).wf|exact(bR ..).wf
  |(refine WF.bind ?_ λ _=>?_)|split|dsimp only)
end
def vy(P:aG)(s:au)(f:Nat):Bool:=match P.underlying s with
 |some (.struct fs)=>(match fs[f]? with
  |some fd=>(match P.info? fd.type with
   |some i=>i.size != 0
   |none=>aa)
  |none=>aa)
 |_=>aa
def LS(P:aG)(b:Nat){α:Type}:Sem α->Prop
 |.pure _=>True
 |.halt _=>True
 |.program k=>LS P b (k P)
 |.mark _ k=>LS P b k
 |.load _ a k=>a.block=b/\∀v,LS P b (k v)
 |_=>False
section
variable{P:aG}{α β:Type}{b:Nat}
theorem LS.bind{f:α->Sem β}:∀{s:Sem α},LS P b s->(∀a,LS P b (f a))->LS P b (s >>= f):=by
 intro s
 show LS P b s->_->LS P b (s.bind f)
 induction s with
 |pure a=>intro _ hf;exact hf a
 |halt h=>intro _ _;trivial
 |program k ih=>intro h hf;exact ih P h hf
 |mark m k ih=>intro h hf;exact ih h hf
 |load m a k ih=>intro h hf;exact⟨h.1,λ v=>ih v (h.2 v) hf⟩
 |_=>intro h;exact h.elim
theorem LS.run:∀{s:Sem α},LS P b s->∀{w w1:ai} {x:α} {cs:Array aj} {t:au} {fz:Nat×Nat},w.heap[b]?=ab (.cells cs t fz)->s.run P w=.ok x w1->
  w1=w/\∀w',w'.heap[b]?=w.heap[b]?->s.run P w'=.ok x w':=by
 intro s
 induction s with
 |pure a=>intro _ w w1 x _ _ _ _ e;simp only[Sem.run,fT] at e;obtain⟨rfl,rfl⟩:=e;exact⟨rfl,λ _ _=>rfl⟩
 |halt h=>intro _ w w1 x _ _ _ _ e;cases e
 |program k ih=>intro h w w1 x _ _ _ hb e;exact ih P h hb e
 |mark m k ih=>intro h w w1 x _ _ _ hb e;exact ih h hb e
 |load m a k ih=>
  intro h w w1 x cs t fz hb e
  obtain⟨rfl,hk⟩:=h
  simp only[Sem.run] at e
  have same:∀w':ai,w'.heap[a.block]?=w.heap[a.block]?->w'.cell? a=w.cell? a:=λ w' hw=>World.cell?_of_block (w:=w) hw
  cases hc:w.cell? a with
  |some v=>
   simp only[hc] at e
   obtain⟨h1,h2⟩:=ih v (hk v) hb e
   refine⟨h1,λ w' hw=>?_⟩
   simp only[Sem.run,same w' hw,hc]
   exact h2 w' hw
  |none=>
   simp only[hc,World.farLoad,hb] at e
   cases e
 |_=>intro h;exact h.elim
theorem T9(t:au):LS P b (underlying t):=by
 show LS P b (match P.underlying t with|some d=>(bN d:Sem ia)|none=>stuck _)
 cases P.underlying t<;>exact trivial
theorem zeR(t:au):LS P b (jl t):=by
 show LS P b ((match P.info? t with|some d=>(bN d:Sem TypeInfo)|none=>stuck _) >>= λ i=>bN i.size)
 cases P.info? t<;>exact trivial
theorem ziW(t:au):LS P b (qz t):=by
 refine(T9 t).bind λ d=>?_
 cases d<;>exact trivial
theorem Addr.UW(a:cr)(n:Nat):(a.add n).block=a.block:=by unfold Addr.add;split<;>rfl
theorem ye(a:cr)(ha:a.block=b):∀(n i:Nat) (acc:Array aj),LS P b (jM a i n acc)
 |0,i,acc=>trivial
 |n+1,i,acc=>by
  show LS P b (load (a.add i) >>= _)
  exact⟨(Addr.UW a i).trans ha,λ v=>ye a ha n (i+1) _⟩
theorem zbL(t:au)(a:cr)(ha:a.block=b):LS P b (et t a):=by
 unfold et
 refine(ziW t).bind λ c=>?_
 cases c
 ·exact⟨ha,λ v=>trivial⟩
 ·exact(zeR t).bind λ n=>(ye a ha n 0 _).bind λ _=>trivial
theorem QL(s:au)(x:aj)(f:Nat)(hP:vy P s f=ae):WF P (k9 s x f):=by
 unfold k9
 change WF P (Sem.bind (match P.underlying s with|some d=>(bN d:Sem ia)|none=>stuck "no such type") _)
 cases h:P.underlying s with
 |none=>exact trivial
 |some d=>
  cases d<;>try exact trivial
  rename_i fs
  change WF P (match fs[f]? with|some f=>_|_=>_)
  cases hf:fs[f]? with
  |none=>exact trivial
  |some fd=>
   refine(dS x).bind λ a=>?_
   refine WF.bind ?_ λ _=>trivial
   unfold fieldPlace
   change WF P (Sem.bind (Sem.bind (match P.info? fd.type with|some d=>(bN d:Sem TypeInfo)|none=>stuck "no such type") _) _)
   cases hi:P.info? fd.type with
   |none=>exact trivial
   |some i=>
    change WF P (if i.size=0 then _ else _)
    rw[if_neg (by intro e;simp[vy,h,hf,hi,e] at hP)]
    exact trivial
theorem VA{f:β->α->Sem β}(hf:∀b a,WF P (f b a)):∀(l:List α) (b:β),WF P (l.foldlM f b)
 |[],b=>trivial
 |a::l,b=>by rw[iE];exact(hf b a).bind λ b'=>VA hf l b'
theorem zod{f:α->Sem β}(hf:∀a,WF P (f a))(xs:Array α):WF P (xs.mapM f):=by
 rw[gm,<-iq]
 exact VA (λ b a=>WF.bind (hf a) λ v=>show WF P (bN (b.push v):Sem (Array β)) from trivial) _ _
theorem zks(t:au)(parts:Array (Nat×aj)):WF P (iV t parts):=by
 unfold iV
 refine(dy t).bind λ z=>(cp t).bind λ d=>?_
 cases d<;>try exact trivial
 ·refine(eX _).bind λ n=>?_
  split<;>exact trivial
 ·refine(zod (λ(f:Field)=>WF.bind (eX f.type) λ n=>show WF P (bN (f.offset,n):Sem (Nat×Nat)) from trivial) _).bind λ n=>?_
  split<;>exact trivial
theorem X1(op:lu)(t:au)(k k':cZ)(x y:Int):WF P (binOp op t (.int k x) (.int k' y)):=by
 cases op<;>simp only[binOp]<;>first
  |exact zkv _ _ _ _ _
  |(refine zsr trivial ?_;first|exact MQ _ _ _ _|exact zfl _ _ _ _|exact QM _ _ _ _|exact zfk _ _ _)
theorem Oz(op:lu)(t:au)(x y:ByteArray):WF P (binOp op t (.string x) (.string y)):=by
 cases op<;>simp only[binOp]<;>exact zal _ _ _
theorem Us(t:au)(x y:Bool):WF P (rQ t (.bool x) (.bool y)):=by
 show WF P (zFO (9999+1) t (.bool x) (.bool y))
 rw[zFO]
 refine(cp t).bind λ d=>?_
 cases d<;>exact trivial
theorem Ur(op:lu)(t:au)(x y:Bool):WF P (binOp op t (.bool x) (.bool y)):=by
 cases op<;>simp only[binOp]<;>first|exact trivial|exact(Us t x y).bind λ _=>trivial
def Py(ρ:bp->aj):Op->Bool
 |.move _|.assign _|.fieldAddr ..|.field ..|.indexAddr ..|.index ..|.slice ..|.unOp ..|.extract ..|.makeInterface ..|.pick ..|.build ..=>ae
 |.nilCheck x=>match ρ x with|.pointer (ab _)=>ae|_=>aa
 |.binOp _ _ x y _=>match ρ x,ρ y with|.int ..,.int ..|.string _,.string _|.bool _,.bool _=>ae|_,_=>aa
 |.convert _ _ x=>match ρ x with|.int ..=>ae|_=>aa
 |.call c=>match c.callee with|.builtin .len=>(match c.args[0]? with|some x=>(match ρ x with|.slice ..|.string _=>ae|_=>aa)|none=>aa)|_=>aa
 |_=>aa
theorem kE{s:Sem aj}(h:WF P s):WF P (do pure (lZ (<-s)):Sem Next):=h.bind λ _=>trivial
theorem zss(qv:Array au)(ty:au)(args:Array aj)(h:(match args[0]? with|some (.slice ..)|some (.string _)=>ae|_=>aa)=ae):WF P (kJ qv ty args):=by
 unfold kJ
 cases h0:qv[0]? with
 |none=>exact trivial
 |some t=>
  cases h1:args[0]? with
  |none=>exact trivial
  |some x=>
   simp only[h1] at h
   refine(cp t).bind λ d=>?_
   cases x<;>first|(simp at h;done)|skip
   all_goals cases d<;>first|exact trivial|exact(cp _).bind λ d'=>(by cases d'<;>exact trivial)
theorem B6(src dst:au)(k:cZ)(n:Int)(h:∃k',P.underlying dst=ab (.int k')):WF P (convert src dst (.int k n)):=by
 obtain⟨k',h⟩:=h
 unfold convert
 refine(cp src).bind λ d=>?_
 change WF P (Sem.bind (match P.underlying dst with|some d=>(bN d:Sem ia)|none=>stuck "no such type") _)
 rw[h]
 cases d<;>exact trivial
theorem znD{ρ:bp->aj}{o:di}(h:Py ρ o.op=ae)(hP:∀s x f,o.op=.fieldAddr s x f->vy P s f=ae)(hc:∀s d x,o.op=.convert s d x->∃k',P.underlying d=ab (.int k')):WF P (bd ρ o):=by
 obtain⟨dst,op,type,pos,after,guard⟩:=o
 cases op<;>simp only[Py] at h<;>first|(cases h;done)|skip
 case move x=>exact trivial
 case assign x=>exact trivial
 case pick c a b=>exact(gi _).bind λ _=>trivial
 case nilCheck x=>
  simp only[bd]
  cases hx:ρ x<;>simp only[hx] at h<;>first|(cases h;done)|skip
  rename_i a
  cases a
  ·cases h
  ·exact trivial
 case binOp op t x y yt=>
  simp only[bd]
  refine kE ?_
  refine WF.bind ?_ λ _=>?_
  ·unfold jG
   cases hx:ρ x<;>simp only[hx] at h<;>first|(cases h;done)|skip
   all_goals cases hy:ρ y<;>simp only[hy] at h<;>first|(cases h;done)|skip
   all_goals (dsimp only;split<;>exact trivial)
  ·cases hx:ρ x<;>simp only[hx] at h<;>first|(cases h;done)|skip
   all_goals cases hy:ρ y<;>simp only[hy] at h<;>first|(cases h;done)|skip
   ·exact Ur _ _ _ _
   ·exact X1 _ _ _ _ _ _
   ·exact Oz _ _ _ _
 case unOp op t x=>exact kE (zkx _ _)
 case convert s d x=>
  simp only[bd]
  refine kE ?_
  cases hx:ρ x<;>simp only[hx] at h<;>first|(cases h;done)|skip
  exact B6 _ _ _ _ (hc s d x rfl)
 case makeInterface t x=>exact kE (Lw _ _)
 case build t ps=>exact kE (zks _ _)
 case slice t x lo hi mx=>exact kE (zci _ _ _ _ _)
 case fieldAddr s x f=>exact kE (QL _ _ _ (hP s x f rfl))
 case field t x f=>exact kE (zkt _ _ _)
 case indexAddr t x i=>exact kE (zch _ _ _)
 case index t x i=>exact kE (zku _ _ _)
 case extract t i=>exact kE (zcg _ _)
 case call c=>
  obtain⟨callee,args,qv⟩:=c
  cases callee<;>first|(simp at h;done)|skip
  rename_i bb
  cases bb<;>first|(simp at h;done)|skip
  simp only[bd,resolve]
  refine kE (zss _ _ _ ?_)
  cases h0:args[0]? with
  |none=>simp[h0] at h
  |some x=>
   simp only[Array.getElem?_map,h0,cO]
   simp only[h0] at h
   cases hx:ρ x<;>simp[hx] at h ⊢
theorem Pz{s: Sem aj}{w w1: ai}{n: Next}(h : (do pure (lZ (← s)) : Sem Next).run P w = .ok n w1) : ∃ v, n = .value v := by
  simp only [Sem.run_bind, Sem.run_pure] at h
  cases hr : s.run P w <;> simp only [hr, bc, Result.andThen_halt, fT] at h
  · exact ⟨_, h.1.symm⟩
  · cases h
theorem zb0{ρ:bp->aj}{o:di}(h:Py ρ o.op=ae){w w1:ai}{n:Next}(hr:(bd ρ o).run P w=.ok n w1):∃v,n=.value v:=by
 obtain⟨dst,op,type,pos,after,guard⟩:=o
 cases op<;>simp only[Py] at h<;>first|(cases h;done)|skip
 case move x=>simp only[bd,Sem.run_pure,fT] at hr;exact⟨_,hr.1.symm⟩
 case assign x=>simp only[bd,Sem.run_pure,fT] at hr;exact⟨_,hr.1.symm⟩
 case pick c a b=>
  simp only[bd,Sem.run_bind] at hr
  cases hb:(asBool (ρ c)).run P w<;>simp only[hb,bc,Result.andThen_halt,Sem.run_pure,fT] at hr
  ·exact⟨_,hr.1.symm⟩
  ·cases hr
 case nilCheck x=>
  simp only[bd] at hr
  cases hx:ρ x<;>simp only[hx] at h<;>first|(cases h;done)|skip
  rename_i a
  cases a
  ·cases h
  ·simp only[hx,Sem.run_pure,fT] at hr;exact⟨_,hr.1.symm⟩
 case call c=>
  obtain⟨callee,args,qv⟩:=c
  cases callee<;>first|(simp at h;done)|skip
  rename_i bb
  cases bb<;>first|(simp at h;done)|skip
  exact Pz hr
 all_goals exact Pz hr
def noQ:ni->Act->ai->Prop:=λ _ _ _=>False
variable{ops:Array di}{Q:ni->Act->ai->Prop}{p:Nat->Prop}{C:Tr}{a:Act}{w:ai}{o:di}{i:Nat}
theorem zj(ho:ops[i]?=ab o)(hw:aR o (yielded ops a.tmps)=ae)
  (eB:∀n w1,(bd a.eval o).run P w=.ok n w1->w1=w/\(∃v,n=.value v)/\∀w',Ex p w w'->(bd a.eval o).run P w'=.ok n w')
  (h:∀K:Act->ai->Prop,(∀a',Gl P ops p Q C a' w->K a' w)->o.wp P a w K noQ):Gl P ops p Q (.op i 0 C) a w:=by
 have h1:=h (λ a' w'=>w'=w/\Gl P ops p Q C a' w') (λ a' h=>⟨rfl,h⟩)
 unfold lp at h1
 cases hr:(bd a.eval o).run P w with
 |ok n w1=>
  obtain⟨rfl,⟨v,rfl⟩,h3⟩:=eB n w1 hr
  rw[hr] at h1
  exact⟨o,v,ho,.inl ⟨hw,h3⟩,h1.2⟩
 |halt x w1=>
  rw[hr] at h1
  cases x<;>exact h1.elim
theorem nz(ho:ops[i]?=ab o)(hw:aR o (yielded ops a.tmps)=ae)(hs:Py a.eval o.op=ae)(hc:(match o.op with|.convert ..=>aa|.fieldAddr ..=>aa|_=>ae)=ae)
  (h:∀K:Act->ai->Prop,(∀a',Gl P ops p Q C a' w->K a' w)->o.wp P a w K noQ):Gl P ops p Q (.op i 0 C) a w:=
 zj ho hw (λ n w1 hr=>
  have hwf:=znD hs (λ s x f e=>by rw[e] at hc;cases hc) (λ s d x e=>by rw[e] at hc;cases hc)
  ⟨(hwf.run hr).1,zb0 hs hr,λ w' _=>(hwf.run hr).2 w'⟩) h
variable{x:bp}
theorem lz{s: au}{f: Nat}(ho : ops[i]? = ab o)(hw : aR o (yielded ops a.tmps) = ae)(cM : o.op = .fieldAddr s x f)(hP : vy P s f = ae)
    (h : ∀ K : Act → ai → Prop, (∀ a', Gl P ops p Q C a' w → K a' w) → o.wp P a w K noQ) : Gl P ops p Q (.op i 0 C) a w := by
  have hex : bd a.eval o = (do pure (lZ (← k9 s (a.eval x) f)) : Sem Next) := by
    unfold bd
    rw [cM]
  have hwf : WF P (bd a.eval o) := by rw [hex]; exact kE (QL s _ f hP)
  exact zj ho hw (fun n w1 hr => ⟨(hwf.run hr).1, by rw [hex] at hr; exact Pz hr, fun w' _ => (hwf.run hr).2 w'⟩) h
theorem nt{s d: au}{k k': cZ}{n: Int}(ho : ops[i]? = ab o)(hw : aR o (yielded ops a.tmps) = ae)(cM : o.op = .convert s d x)(hx : a.eval x = .int k' n)(hd : P.underlying d = ab (.int k))
    (h : ∀ K : Act → ai → Prop, (∀ a', Gl P ops p Q C a' w → K a' w) → o.wp P a w K noQ) : Gl P ops p Q (.op i 0 C) a w := by
  have hex : bd a.eval o = (do pure (lZ (← convert s d (.int k' n))) : Sem Next) := by
    unfold bd
    rw [cM]
    simp only [hx]
  have hwf : WF P (bd a.eval o) := by rw [hex]; exact kE (B6 s d k' n ⟨k, hd⟩)
  exact zj ho hw (fun n w1 hr => ⟨(hwf.run hr).1, by rw [hex] at hr; exact Pz hr, fun w' _ => (hwf.run hr).2 w'⟩) h
theorem nv{t: au}{b off: Nat}(ho : ops[i]? = ab o)(hw : aR o (yielded ops a.tmps) = ae)(cM : o.op = .load t x)(hx : a.eval x = .pointer (ab ⟨b, off, ak⟩))
    (hp : p b) (hcell : (w.cell? ⟨b, off, ak⟩).isSome = ae)
    (h : ∀ K : Act → ai → Prop, (∀ a', Gl P ops p Q C a' w → K a' w) → o.wp P a w K noQ) : Gl P ops p Q (.op i 0 C) a w := by
  refine zj ho hw (fun n w1 hr => ?_) h
  have hb : ∃ cs t fz, w.heap[b]? = ab (.cells cs t fz) := by
    unfold World.cell? at hcell
    split at hcell
    · exact ⟨_, _, _, ‹_›⟩
    · cases hcell
  obtain ⟨cs, t', fz, hb⟩ := hb
  have hex : bd a.eval o = (do pure (lZ (← et t ⟨b, off, ak⟩)) : Sem Next) := by
    unfold bd
    rw [cM]
    simp only [hx, eY, bZ]
    rfl
  have hls : LS P b (bd a.eval o) := by
    rw [hex]
    exact LS.bind (zbL t ⟨b, off, ak⟩ rfl) (fun v => show LS P b (bN (lZ v) : Sem Next) from trivial)
  obtain ⟨h1, h2⟩ := hls.run hb hr
  have cj : b < w.heap.size := (ah.1 hb).1
  exact ⟨h1, by rw [hex] at hr; exact Pz hr, fun w' hx => h2 w' (hx.2 b hp cj)⟩
theorem ny(ho:ops[i]?=ab o)(hw:aR o (yielded ops a.tmps)=aa)(h:Gl P ops p Q C (a.put o.dst undef) w):Gl P ops p Q (.op i 0 C) a w:=
 ⟨o,undef,ho,.inr ⟨hw,rfl⟩,h⟩
theorem Xb(ho:ops[i]?=ab o)(hw:aR o (yielded ops a.tmps)=ae)
  (h:∀K:Act->ai->Prop,(∀a' w',(Ex p w w'/\Gl P ops p Q C a' w')->K a' w')->o.wp P a w K Q):Gl P ops p Q (.op i 1 C) a w:=by
 show wpOp P ops Q i _ a w
 unfold wpOp
 simp only[ho,hw,if_true]
 exact .inl (h _ λ _ _ h=>h)
theorem nu(ho:ops[i]?=ab o)(hw:aR o (yielded ops a.tmps)=ae)
  (h:∀K:Act->ai->Prop,(∀a' w',Gl P ops p Q C a' w'->K a' w')->o.wp P a w K Q):Gl P ops p Q (.op i 2 C) a w:=by
 show wpOp P ops Q i _ a w
 unfold wpOp
 simp only[ho,hw,if_true]
 exact .inl (h _ λ _ _ h=>h)
theorem pU(h:Q .normal a w):Gl P ops p Q .nil a w:=h
end
theorem hid{q:Prop}(h:q):Hid q:=h
def tJ:aj->Bool
 |.bool _|.int _ _=>ae
 |_=>aa
def mU(w:ai)(g:Nat):Prop:=∃c e f,w.heap[g]?=ab (.cells c e f)
variable{g:Nat}
theorem mU.same{w w':ai}(h:mU w g)(e:w'.heap[g]?=w.heap[g]?):mU w' g:=by
 obtain⟨c,t,f,h⟩:=h
 exact⟨c,t,f,e.trans h⟩
theorem mU.lt{w:ai}(h:mU w g):g<w.heap.size:=by
 obtain⟨c,t,f,h⟩:=h
 exact(ah.1 h).1
variable{P:aG}{v:aj}
theorem zfj{w w':ai}{ad k:cr}{u:au}{b:Bool}{l:List cr}(h:w.viewStore P ad u k v b=.ok (w',l))(hg:mU w g):mU w' g:=by
 have key:∃c e f,w'={ w with heap:=w.heap.setIfInBounds ad.block (.cells c e f) }:=by
  unfold World.viewStore at h
  simp only[bind,Except.bind,pure,Except.pure] at h
  repeat' split at h
  all_goals first
   |(cases h;done)
   |(simp only[Except.ok.injEq,bz] at h;exact⟨_,_,_,h.1.symm⟩)
   |skip
 obtain⟨c,e,f,rfl⟩:=key
 by_cases hb:ad.block=g
 ·subst hb
  exact⟨c,e,f,by simp[hg.lt]⟩
 ·exact hg.same (bt hb)
theorem zev{w:ai}{a:cr}(hg:mU w g):mU (w.setCell a v) g:=by
 obtain⟨c,e,f,h⟩:=hg
 unfold World.setCell mU
 simp only[du]
 split
 ·rw[h];exact⟨_,_,_,rfl⟩
 ·exact⟨c,e,f,h⟩
variable{n:Nat}
theorem Z0{w:ai}{a:cr}(hg:mU w g):mU (w.freeze a n) g:=by
 obtain⟨c,e,f,h⟩:=hg
 unfold World.freeze
 split
 ·exact⟨c,e,f,h⟩
 ·unfold mU
  simp only[du]
  split
  ·rw[h];exact⟨_,_,_,rfl⟩
  ·exact⟨c,e,f,h⟩
theorem zh8{α:Type}(k:Ask α):∀w:ai,(w.ask k).2.heap=w.heap:=by
 induction k with
 |done a=>intro w;rfl
 |ask what range k ih=>
  intro w
  unfold World.ask
  simp only
  split
  ·exact ih _ _
  ·rw[ih]
theorem zjF{w:ai}{c:Sys}(hg:mU w g):mU (w.sys c).2 g:=by
 have:(w.sys c).2.heap=w.heap:=by
  have h1:=zh8 (Kernel.perform c w.os) w
  unfold World.sys
  split
  ·rfl
  ·rename_i h
   rw[h] at h1
   exact h1
 obtain⟨a,b,d,h⟩:=hg
 exact⟨a,b,d,by rw[this];exact h⟩
theorem zjp{α: Type}(s : Sem α) : ∀ {w w' : ai} {x : α} {g : Nat}, s.run P w = .ok x w' → mU w g → mU w' g := by
  induction s with
  | pure a => intro w w' x g h hg; cases h; exact hg
  | load m a k ih =>
    intro w w' x g h hg
    simp only [Sem.run] at h
    split at h
    · exact ih _ h hg
    · split at h
      · exact ih _ h hg
      · cases h
  | store m a v k ih =>
    intro w w' x g h hg
    cases v <;> simp only [Sem.run] at h
    all_goals first
      | (cases h; done)
      | (split at h
         · split at h
           · cases h
           · exact ih h (zev hg)
         · split at h
           · rename_i w1 l hf
             refine ih h ?_
             unfold World.farStore at hf
             split at hf
             · split at hf
               · rename_i r hr
                 cases hf
                 exact zfj hr hg
               · cases hf
             · cases hf
           · cases h)
  | new o k ih =>
    intro w w' x g h hg
    refine ih _ h ?_
    obtain ⟨c, e, f, h1⟩ := hg
    refine ⟨c, e, f, ?_⟩
    show (w.heap.push o)[g]? = _
    rw [bJ, if_neg (by have := (ah.1 h1).1; omega)]
    exact h1
  | shape r k ih => intro w w' x g h hg; exact ih _ h hg
  | freeze a n k ih => intro w w' x g h hg; exact ih h (Z0 hg)
  | frozen a k ih => intro w w' x g h hg; exact ih _ h hg
  | getObj r k ih =>
    intro w w' x g h hg
    simp only [Sem.run] at h
    split at h
    · cases h
    · exact ih _ h hg
    · cases h
  | setObj r o k ih =>
    intro w w' x g h hg
    simp only [Sem.run] at h
    split at h
    · cases h
    · rename_i o0 fh ho
      refine ih h ?_
      obtain ⟨c, e, f, h1⟩ := hg
      refine ⟨c, e, f, ?_⟩
      show (w.heap.setIfInBounds r o)[g]? = _
      rw [bt]
      · exact h1
      · rintro rfl
        rw [h1] at ho
        cases ho
        first | exact fh _ _ _ h1 | exact fh _ _ _ rfl
    · cases h
  | choose q k ih =>
    intro w w' x g h hg
    simp only [Sem.run] at h
    split at h
    · exact ih _ h hg
    · exact ih _ h hg
  | sys c k ih => intro w w' x g h hg; exact ih _ h (zjF hg)
  | program k ih => intro w w' x g h hg; exact ih _ h hg
  | mark m k ih => intro w w' x g h hg; exact ih h hg
  | halt h1 => intro w w' x g h hg; cases h
def Sl(w:ai)(sz:Nat)(v:aj)(n:Nat)(xs:List aj):Prop:=
 xs.length=n*sz/\((n=0/\∃a cap,v=.slice a 0 cap/\(a=ak->cap=0)/\∀ad,a=ab ad->mU w ad.block)\/
  ∃(g off cap:Nat) (cur:Array aj) (T:au×(Nat×Nat)),v=.slice (ab ⟨g,off,ak⟩) n cap/\n<=cap/\w.heap[g]?=ab (.cells cur T.1 T.2)/\(off+n*sz<=cur.size/\(cur.toList.take (off+n*sz)).all tJ=ae)/\(cur.toList.drop off).take (n*sz)=xs)
variable{xs:List aj}
theorem Sl.below{w w':ai}{sz:Nat}(h:Sl w sz v n xs)(hb:cE w.heap.size w w'):Sl w' sz v n xs:=by
 refine⟨h.1,h.2.imp (λ⟨h0,a,cap,h1,h2,h3⟩=>⟨h0,a,cap,h1,h2,λ ad he=>(h3 ad he).same (hb.block _ (h3 ad he).lt)⟩) λ⟨g,off,cap,cur,T,h1,h2,h3,h4,h5⟩=>⟨g,off,cap,cur,T,h1,h2,?_,h4,h5⟩⟩
 rw[hb.block g (ah.1 h3).1];exact h3
theorem Sl.form{w:ai}{sz:Nat}(h:Sl w sz v n xs):∃a cap,v=.slice a n cap/\∀k,k<n->∃g off,a=ab ⟨g,off,ak⟩/\∀j,j<sz->w.cell? ⟨g,off+(k*sz+j),ak⟩=ab (xs.getD (k*sz+j) undef):=by
 rcases h.2 with⟨rfl,a,cap,rfl,_⟩|⟨g,off,cap,cur,T,rfl,h2,h3,h4,h5⟩
 ·exact⟨a,cap,rfl,λ k hk=>by omega⟩
 ·refine⟨_,cap,rfl,λ k hk=>⟨g,off,rfl,λ j hj=>?_⟩⟩
  have cj:k*sz+j<n*sz:=by
   have:(k+1)*sz<=n*sz:=br _ hk
   rw[gj] at this;omega
  have h4:=h4.1
  have hx:xs[k*sz+j]?=cur.toList[off+(k*sz+j)]?:=by
   rw[<-h5,l7,if_pos cj,kh]
  unfold World.cell?
  simp only[h3]
  rw[dq,hx]
  have:off+(k*sz+j)<cur.size:=by omega
  simp[this]
theorem Sl.cells{w:ai}{sz:Nat}{off cap:Nat}(h:Sl w sz (.slice (ab ⟨g,off,ak⟩) n cap) n xs)(h0:0<n):∀j u,xs[j]?=ab u->w.cell? ((⟨g,off,ak⟩:cr).add j)=ab u:=by
 rcases h.2 with⟨rfl,_⟩|⟨g',MZ,V2,cur,T,he,h2,h3,h4,h5⟩
 ·omega
 ·simp only[b9,aF,Addr.mk.injEq,and_true,true_and] at he
  obtain⟨⟨rfl,rfl⟩,rfl⟩:=he
  intro j u hu
  rw[<-h5,l7] at hu
  split at hu
  ·rw[kh] at hu
   have zqX:(⟨g,off,ak⟩:cr).add j=⟨g,off+j,ak⟩:=by unfold Addr.add;split<;>simp_all
   rw[zqX]
   unfold World.cell?
   simp only[h3]
   simpa using hu
  ·cases hu
variable{e:au}
theorem oZ{w:ai}{base:Nat}{sz:Nat}(h:w.ownsRow base e sz v n xs)(hx:xs.all tJ=ae):Sl w sz v n xs:=by
 refine⟨h.1,?_⟩
 rcases h.2 with⟨rfl,rfl⟩|⟨g,cap,cur,rfl,hb,hg,hn,hm,hs,ht⟩
 ·exact .inl ⟨rfl,ak,0,rfl,λ _=>rfl,λ ad he=>by cases he⟩
 ·have:=br sz hn
  exact .inr ⟨g,0,cap,cur,(e,(0,0)),rfl,hn,hg,⟨by omega,by rw[fQ,ht];exact hx⟩,by simpa using ht⟩
theorem Qs{w w':ai}{base:Nat}{sz:Nat}(h:w.ownsRow base e sz v n xs)(hb:cE w.heap.size w w'):w'.ownsRow base e sz v n xs:=
 h.kept (row:=ak) ⟨hb.os,hb.tape,hb.output,hb.size,λ k hk _=>hb.block k hk⟩ (by cases hv:v.ownBlock<;>simp)
theorem CV{w:ai}{base AQ:Nat}{sz:Nat}(h:w.ownsRow base e sz v n xs)(hb:AQ<=base):w.ownsRow AQ e sz v n xs:=
 ⟨h.1,h.2.imp id λ⟨g,cap,cur,h1,h2,h3⟩=>⟨g,cap,cur,h1,bD hb h2,h3⟩⟩
variable{o:di}{a:Act}{K:Act->ai->Prop}{Q:ni->Act->ai->Prop}
theorem zF{w:ai}(s x:bp)(t:au)
  (ho:o.op=.call { callee:=.builtin .append,args:=#[s,x],argTypes:=#[t,t] })
  (base:Nat) (e:au) (z:aj) (size bytes:Nat) (ht:P.underlying t=ab (.slice e)) (hi:(P.info? e).map (λ i=>(i.zero,i.size,i.bytes))=ab (ab z,size,bytes))
  (hzs:z.cells.size=size) (hsz:0<size)
  (v:aj) (n:Nat) (xs:List aj) (hs:a.eval s=v) (dY:w.ownsRow base e size v n xs)
  (vs:aj) (m:Nat) (news:List aj) (hx:a.eval x=vs) (yD:Sl w size vs m news) (h1:∀u∈news,u.oneCell'=ae)
  (h63:n+m<=pR) (Pu:(n+m)*bytes<=140737488355328) (GH:base<=w.heap.size)
  (h:∀v' w',w'.ownsRow base e size v' (n+m) (xs++news)->w.grownBy w' v.ownBlock->(v'.ownBlock=v.ownBlock\/v'.ownBlock=ab w.heap.size)->(∀g,mU w g->mU w' g)->K (a.put o.dst v') w'):o.wp P a w K Q:=by
 have za2:∀(ad:cr) (c:Nat) (hx:a.eval x=.slice (ab ad) m c) (LJ:∀j u,news[j]?=ab u->w.cell? (ad.add j)=ab u),o.wp P a w K Q:=by
  intro ad c hx LJ
  obtain⟨i,hi,hz,Sw,OE⟩:=zd hi
  obtain⟨v',w',hr,h2,h3,_,h5⟩:=run_append_own_at (P:=P) w base t o.type e i z size bytes ht hi hz Sw OE hzs hsz v n xs dY ad m c news yD.1 LJ h1 h63 Pu GH
  unfold lp bd
  simp only[ho,resolve,invoke,builtin,Sem.run_bind,Sem.run_pure,bc,lF,dC,pZ,hs,hx,hr]
  exact h v' w' h2 h3 h5 λ g hg=>zjp _ hr hg
 obtain⟨i,hi,hz,Sw,OE⟩:=zd hi
 have zzp:=yD
 rcases yD.2 with⟨rfl,a0,cap0,rfl,zvG,_⟩|⟨g,off,cap,cur,T,rfl,h2,h3,h4,h5⟩
 ·have LJ:news=[]:=cY (by simpa using yD.1)
  subst LJ
  cases a0 with
  |none=>
   rw[zvG rfl] at hx
   have eB:=run_append_owned_none (P:=P) (w:=w) base t o.type e i size ht hi v n xs dY
   unfold lp
   simp only[bd,ho,resolve,invoke,builtin,Sem.run_bind,Sem.run_pure,bc,lF,dC,pZ,hs,hx,eB]
   exact h v w (by simpa using dY) ⟨rfl,rfl,rfl,aA _,λ _ _ _=>rfl⟩ (.inl rfl) λ g hg=>hg
  |some ad=>exact za2 ad cap0 hx (by simp)
 ·by_cases h0:0<m
  ·exact za2 ⟨g,off,ak⟩ cap hx (zzp.cells h0)
  ·obtain rfl:m=0:=by omega
   have LJ:news=[]:=cY (by simpa using yD.1)
   subst LJ
   exact za2 ⟨g,off,ak⟩ cap hx (by simp)
def zul(w:ai)(base:Nat)(e:au)(v:aj):Prop:=v=.slice ak 0 0\/∃g,v=.slice (ab ⟨g,0,ak⟩) 0 0/\base<=g/\w.heap[g]?=ab (.cells #[] e (0,0))
theorem Ow(w:ai)(t ty e:au)(z:aj)(size bytes:Nat)(ht:P.underlying t=ab (.slice e))(zmz:(P.info? e).map (λ i=>(i.zero,i.size,i.bytes))=ab (ab z,size,bytes))
  (hzs:z.cells.size=size) (v vs:aj) (m:Nat) (news:List aj) (yD:Sl w size vs m news) (h63:m<=pR) (Pu:m*bytes<=140737488355328) (base:Nat) (GH:base<=w.heap.size) (hv:zul w base e v):
  ∃v' w',(oO #[t,t] ty #[v,vs]).run P w=.ok v' w'/\w'.ownsRow base e size v' m news/\cE w.heap.size w w':=by
 obtain⟨i,hi,hz,rfl,rfl⟩:=zd zmz
 clear zmz
 have zzO:m<=9223372036854775807:=by simp only[pR] at h63;omega
 have made:∀n old,n=m->(w.drew.alloc (.cells (news.toArray++m7 z.cells (grownCap w n old e-n)) e)).ownsRow base e i.size (.slice (ab ⟨w.heap.size,0,ak⟩) n (grownCap w n old e)) n news/\
   cE w.heap.size w (w.drew.alloc (.cells (news.toArray++m7 z.cells (grownCap w n old e-n)) e)):=by
  intro n old hn
  subst hn
  have hge:=grownCap_ge w n old e
  refine⟨⟨yD.1,.inr ⟨w.heap.size,_,_,rfl,GH,jZ w.drew _,hge,grownCap_le_maxLen w n old e h63,?_,?_⟩⟩,(bO _ _).drew.alloc (aA _) _⟩
  ·simp only[Array.size_append,List.size_toArray,size_zeroCells,hzs,yD.1,<-gj]
   congr 1
   omega
  ·simp only[Array.toList_append]
   rw[<-yD.1]
   exact List.take_left
 by_cases hm:m=0
 ·subst hm
  have LJ:news=[]:=cY (by simpa using yD.1)
  subst LJ
  obtain⟨a,cap,rfl,_⟩:=yD.form
  refine⟨v,w,?_,?_,bO _ _⟩
  ·rcases hv with rfl|⟨g,rfl,_,hg⟩<;>cases a<;>simp[oO,bB ht,jl,dQ,hi,Builtin.lenOf,Builtin.firstCells,loadCells,jM,storeCells]
  ·rcases hv with rfl|⟨g,rfl,hb,hg⟩
   ·exact World.ownsRow_nil _ _ _ _
   ·exact⟨by simp,.inr ⟨g,0,#[],rfl,hb,hg,aA _,bw _,by simp,by simp⟩⟩
 ·obtain⟨a,cap,rfl,hc⟩:=yD.form
  obtain⟨g0,off,rfl,_⟩:=hc 0 (by omega)
  have JH:=yD.cells (by omega)
  rcases hv with rfl|⟨g,rfl,hb,hg⟩
  ·have hr:=run_append_nil (P:=P) w t ty e i z ht hi hz ⟨g0,off,ak⟩ m cap news yD.1 JH (by omega) (by omega) (by omega)
   exact⟨_,_,hr,(made m 0 rfl).1,(made m 0 rfl).2⟩
  ·have hr:=run_append_grow (P:=P) w t ty e i z ht hi hz ⟨g,0,ak⟩ 0 0 [] (by simp) (by simp) ⟨g0,off,ak⟩ m cap news yD.1 JH (by omega) (by omega) (growslice_fits (by omega) (by simpa using Pu))
   simp only[fQ,Array.empty_append] at hr
   exact⟨_,_,hr,(made m 0 rfl).1,(made m 0 rfl).2⟩
theorem zcj{w:ai}(s x:bp)(t:au)
  (ho:o.op=.call { callee:=.builtin .append,args:=#[s,x],argTypes:=#[t,t] })
  (base:Nat) (e:au) (z:aj) (size bytes:Nat) (ht:P.underlying t=ab (.slice e)) (hi:(P.info? e).map (λ i=>(i.zero,i.size,i.bytes))=ab (ab z,size,bytes))
  (hzs:z.cells.size=size) (v:aj) (hs:a.eval s=v) (hv:zul w base e v)
  (vs:aj) (m:Nat) (news:List aj) (hx:a.eval x=vs) (yD:Sl w size vs m news)
  (h63:m<=pR) (Pu:m*bytes<=140737488355328) (GH:base<=w.heap.size)
  (h:∀v' w',w'.ownsRow base e size v' m news->cE w.heap.size w w'->K (a.put o.dst v') w'):o.wp P a w K Q:=by
 obtain⟨v',w',hr,h1,h2⟩:=Ow (P:=P) w t o.type e z size bytes ht hi hzs v vs m news yD h63 Pu base GH hv
 unfold lp bd
 simp only[ho,resolve,invoke,builtin,Sem.run_bind,Sem.run_pure,bc,lF,dC,pZ,hs,hx,hr]
 exact h v' w' h1 h2
theorem Sl.drop{w:ai}{sz g off cap n k:Nat}{xs:List aj}(h:Sl w sz (.slice (ab ⟨g,off,ak⟩) n cap) n xs)(hk:k<=n)(hn:0<n)(a':Option cr)(ha:k<cap->a'=ab ⟨g,off+k*sz,ak⟩)(ha':a'≠ak)(hb:∀ad,a'=ab ad->ad.block=g):
  Sl w sz (.slice a' (n-k) (cap-k)) (n-k) (xs.drop (k*sz)):=by
 refine⟨by rw[iF,h.1,rX],?_⟩
 rcases h.2 with⟨rfl,_⟩|⟨g',MZ,V2,cur,T,he,h2,h3,h4,h5⟩
 ·omega
 ·simp only[b9,aF,Addr.mk.injEq,and_true,true_and] at he
  obtain⟨⟨rfl,rfl⟩,rfl⟩:=he
  by_cases hkn:k<n
  ·refine .inr ⟨g,off+k*sz,cap-k,cur,T,by rw[ha (by omega)],by omega,h3,?_,?_⟩
   ·have:(n-k)*sz+k*sz=n*sz:=by rw[<-gj];congr 1;omega
    rw[show off+k*sz+(n-k)*sz=off+n*sz by omega]
    exact h4
   ·rw[<-h5,uw,lD,<-rX,zm]
  ·refine .inl ⟨by omega,a',cap-k,by rw[show n-k=0 by omega],λ e=>absurd e ha',λ ad he=>?_⟩
   rw[hb ad he]
   exact⟨cur,T.1,T.2,h3⟩
def pK(w:ai)(v:aj)(l:List Int):Prop:=Sl w 1 v l.length (l.map (eE .i64))
theorem pK.below{w w':ai}{v:aj}{l:List Int}(h:pK w v l)(hb:cE w.heap.size w w'):pK w' v l:=Sl.below h hb
def jv(w:ai)(base:Nat)(v:aj)(l:List Int):Prop:=w.ownsRow base 3 1 v l.length (l.map (eE .i64))
theorem zeK(l:List Int):(l.map (eE .i64)).all tJ=ae:=by simp[Ht,vT,tJ]
variable{l:List Int}
theorem jv.ints{w:ai}{base:Nat}(h:jv w base v l):pK w v l:=oZ h (zeK l)
theorem jv.below{w w':ai}{base:Nat}(h:jv w base v l)(hb:cE w.heap.size w w'):jv w' base v l:=Qs h hb
theorem jv.base{w:ai}{base AQ:Nat}{v:aj}{l:List Int}(h:jv w base v l)(hb:AQ<=base):jv w AQ v l:=CV h hb
theorem jv.made{w:ai}{base:Nat}(hb:base<=w.heap.size):jv (w.alloc (.cells #[] 3)) base (.slice (ab ⟨w.heap.size,0,ak⟩) 0 0) []:=
 World.ownsRow_made w #[] 0 hb (by simp[pR]) (by simp)
theorem jv.grown{w w':ai}{base:Nat}{row:Option Nat}(h:jv w base v l)(hg:w.grownBy w' row)(fh:v.ownBlock=ak\/v.ownBlock≠row):jv w' base v l:=h.kept hg fh
theorem pK.zzz(w:ai)(x:Int):pK (w.alloc (.cells #[.int .i64 x] 3)) (.slice (ab ⟨w.heap.size,0,ak⟩) 1 1) [x]:=
 ⟨rfl,.inr ⟨w.heap.size,0,1,#[.int .i64 x],(3,(0,0)),rfl,aA _,jZ w _,⟨by simp,by simp[tJ]⟩,rfl⟩⟩
theorem jv.nil(w:ai)(base:Nat):jv w base (.slice ak 0 0) []:=World.ownsRow_nil _ _ _ _
theorem pK.drew{w:ai}{v:aj}{l:List Int}(h:pK w v l):pK w.drew v l:=h
theorem jv.drew{w:ai}{base:Nat}{v:aj}{l:List Int}(h:jv w base v l):jv w.drew base v l:=h
theorem jv.alloc{w:ai}{base:Nat}{v:aj}{l:List Int}(h:jv w base v l)(o:Obj):jv (w.alloc o) base v l:=World.ownsRow.alloc h o
theorem jv.lt{w:ai}{base:Nat}{v:aj}{l:List Int}(h:jv w base v l):∀k,v.ownBlock=ab k->base<=k/\k<w.heap.size:=World.ownsRow.lt h
theorem jv.set{w:ai}{base:Nat}(h:jv w base v l){p:cr}(hp:p.block<base)(u:aj):jv (w.setCell p u) base v l:=ownsRow_setCell_below h hp u
theorem jv.form{w:ai}{base:Nat}{v:aj}{l:List Int}(h:jv w base v l):∃a c,v=.slice a l.length c:=by
 obtain⟨a,c,rfl,_⟩:=Sl.form h.ints
 exact⟨a,c,rfl⟩
theorem ziF(l:List Int):∀u∈l.map (eE .i64),u.oneCell'=ae:=by
 intro u hu
 obtain⟨x,_,rfl⟩:=tc.1 hu
 rfl
theorem zdu:(al.prog.info? 3).map (λ i=>(i.zero,i.size,i.bytes))=ab (ab (.int .i64 0),1,8):=by kernel_rfl
theorem Sp{w:ai}(s x:bp)
  (ho:o.op=.call { callee:=.builtin .append,args:=#[s,x],argTypes:=#[28,28] })
  (base:Nat) (v:aj) (l:List Int) (hs:a.eval s=v) (dY:jv w base v l) (vs:aj) (m:List Int) (hx:a.eval x=vs) (yD:pK w vs m)
  (hb:l.length+m.length<=1099511627776) (GH:base<=w.heap.size)
  (h:∀a' c' w',jv w' base (.slice a' (l++m).length c') (l++m)->w.grownBy w' v.ownBlock->((dj a' (l++m).length c').ownBlock=v.ownBlock\/(dj a' (l++m).length c').ownBlock=ab w.heap.size)->K (a.put o.dst (.slice a' (l++m).length c')) w'):o.wp al.prog a w K Q:=
 zF s x _ ho base 3 (.int .i64 0) 1 8 al.underlying28 zdu rfl (by omega) v _ _ hs dY vs _ _ hx yD (ziF m) (by simp only[pR];omega) (by omega) GH λ v' w' h1 h2 h5=>
  have h3:jv w' base v' (l++m):=by unfold jv;rw[List.length_append,List.map_append];exact h1
  by obtain⟨a',c',rfl⟩:=h3.form;exact λ _=>h a' c' w' h3 h2 h5
theorem Lz{w:ai}{ops:Array di}{rest:List di}(hg:o.guard=ak)(c:bp)
  (cM:o.op=Op.makeSlice 28 (.const (.int .i64 0)) c) (n:Nat) (hc:a.eval c=.int .i64 n) (hn:n<=1099511627776) (base:Nat) (hb:base<=w.heap.size)
  (hK:∀w',jv w' base (.slice (ab ⟨w.heap.size,0,ak⟩) 0 n) []->cE w.heap.size w w'->wpList al.prog ops Q rest (a.put o.dst (.slice (ab ⟨w.heap.size,0,ak⟩) 0 n)) w'):
  wpList al.prog ops Q (o::rest) a w:=by
 obtain⟨i0,hi0,AL,Sw,OE⟩:=zd zdu
 exact wpList_make_own w hg (.const (.int .i64 0)) c 28 cM base 3 i0 (.int .i64 0) 1 al.underlying28 hi0 AL Sw .i64 .i64 n n rfl hc rfl (by rw[OE];omega) (by unfold pR;omega) hb
  λ w' h1 h2=>hK w' h1 ⟨h2.os,h2.tape,h2.output,h2.size,λ k hk=>h2.block k hk (by simp)⟩
theorem pK.form{w:ai}{v:aj}{l:List Int}(h:pK w v l):∃a cap,v=.slice a l.length cap/\∀k,k<l.length->∃g off,a=ab ⟨g,off,ak⟩/\w.cell? ⟨g,off+k,ak⟩=ab (.int .i64 (l.getD k 0)):=by
 obtain⟨a,cap,rfl,hc⟩:=Sl.form h
 refine⟨a,cap,rfl,λ k hk=>?_⟩
 obtain⟨g,off,rfl,hg⟩:=hc k hk
 refine⟨g,off,rfl,?_⟩
 have:=hg 0 (by omega)
 simp only[Nat.mul_one,ey] at this
 rw[this]
 simp[my,hk]
theorem zFR(w:ai)(o:Obj):cE w.heap.size w (w.alloc o):=(bO _ _).alloc (aA _) o
theorem kM(w:ai)(o o':Obj):cE w.heap.size w ((w.alloc o).alloc o'):=((bO _ _).alloc (aA _) o).alloc (by simp) o'
theorem blk{w:ai}{b:Nat}{cs:Array aj}{T:au}(h:w.heap[b]?=ab (.cells cs T (0,0))):(∀o,w.cell? ⟨b,o,ak⟩=cs[o]?)/\(∀o,w.frozen? ⟨b,o,ak⟩=aa):=
 ⟨λ o=>by unfold World.cell?;simp[h],λ o=>by unfold World.frozen?;simp[h]⟩
theorem size_alloc(w:ai)(o:Obj):(w.alloc o).heap.size=w.heap.size+1:=by simp
theorem size_set(w:ai)(p:cr)(v:aj):(w.setCell p v).heap.size=w.heap.size:=by simp[World.setCell]
variable{k:Nat}
theorem oD{w:ai}{o:Obj}(h:k=w.heap.size):(w.alloc o).heap[k]?=ab o:=by subst h;exact jZ w o
variable{x:Obj}
theorem bY{w:ai}{o:Obj}(h:w.heap[k]?=ab x):(w.alloc o).heap[k]?=ab x:=by
 rw[show (w.alloc o).heap=w.heap.push o from rfl,bJ,if_neg (by have:=(ah.1 h).1;omega)];exact h
theorem CO{w:ai}(h:w.heap[k]?=ab x):w.drew.heap[k]?=ab x:=h
theorem oM{w:ai}{p:cr}(fh:p.block≠k)(h:w.heap[k]?=ab x):(w.setCell p v).heap[k]?=ab x:=by
 simp only[World.setCell,du];rw[if_neg fh];exact h
theorem ml{w:ai}{b o:Nat}{cs:Array aj}{T:au}{fz:Nat×Nat}(h:w.heap[b]?=ab (.cells cs T fz)):(w.setCell ⟨b,o,ak⟩ v).heap[b]?=ab (.cells (cs.setIfInBounds o v) T fz):=by
 simp only[World.setCell,du,if_true,h,cO];rfl
theorem ug{w w':ai}{row:Option Nat}(hg:w.grownBy w' row)(fh:ab k≠row)(h:w.heap[k]?=ab x):w'.heap[k]?=ab x:=(hg.block k (ah.1 h).1 fh).trans h
theorem Qo(w:ai)(row:Option Nat):w.grownBy w row:=⟨rfl,rfl,rfl,aA _,λ _ _ _=>rfl⟩
variable{w1:ai}
theorem U8{w:ai}{r o:Nat}(h:w.grownBy w1 (ab r))(v:aj):w.grownBy (w1.setCell ⟨r,o,ak⟩ v) (ab r):=
 ⟨h.os,h.tape,h.output,by rw[size_set];exact h.size,λ k hk fh=>(Below.heap_setCell _ _ _ _ (by intro e;exact fh (by rw[e]))).trans (h.block k hk fh)⟩
theorem Qm{w:ai}{row:Option Nat}(h:w.grownBy w1 row):w.grownBy w1.drew row:=⟨h.os,h.tape,h.output,h.size,h.block⟩
theorem below_drewN{B:Nat}{w:ai}(h:cE B w w1)(n:Nat):cE B w (w1.drewN n):=⟨h.os,h.tape,h.output,h.size,h.block⟩
theorem uB{w w2:ai}{B r:Nat}(h:cE B w w1)(hg:w1.grownBy w2 (ab r))(hB:B<=w1.heap.size)(hr:B<=r):cE B w w2:=h.grown hg hB (by simp;omega)
theorem aK{w w':ai}{B:Nat}(hb:cE B w w')(hk:k<B)(h:w.heap[k]?=ab x):w'.heap[k]?=ab x:=(hb.block k hk).trans h
theorem zFP{w w2:ai}(h:cE w.heap.size w w1)(h2:cE w1.heap.size w1 w2):cE w.heap.size w w2:=h.trans (h2.mono h.size)
theorem Ps{w:ai}{A B:Obj}(h:cE ((w.alloc A).alloc B).heap.size ((w.alloc A).alloc B) w1):w1.heap[w.heap.size]?=ab A/\w1.heap[w.heap.size+1]?=ab B/\w.heap.size+2<=w1.heap.size/\cE w.heap.size w w1:=
 ⟨aK h (by simp;omega) (bY (oD rfl)),aK h (by simp) (oD (by simp)),by have:=h.size;simpa using this,zFP (kM w A B) h⟩
theorem E3{w:ai}{A B C:Obj}(h:cE (((w.alloc A).alloc B).alloc C).heap.size (((w.alloc A).alloc B).alloc C) w1):
  w1.heap[w.heap.size]?=ab A/\w1.heap[w.heap.size+1]?=ab B/\w1.heap[w.heap.size+2]?=ab C/\w.heap.size+3<=w1.heap.size/\cE w.heap.size w w1:=
 ⟨aK h (by simp;omega) (bY (bY (oD rfl))),aK h (by simp) (bY (oD (by simp))),aK h (by simp) (oD (by simp)),by have:=h.size;simpa using this,
  zFP ((kM w A B).alloc (by simp;omega) C) h⟩
theorem zc7{x y:Bool}(h:x=y):Ending.returned (.bool x)=.returned (.bool y):=by rw[h]
def eF(x:Int):Bool:=decide (0<=x) && decide (x<=255)
def ko(l:List Int):Bool:=l.all eF
theorem uA(l:List Int)(k:Nat)(hk:k<l.length):ko (l.take (k+1))=(ko (l.take k) && eF (l.getD k 0)):=by
 unfold ko
 rw[List.take_add_one,dq]
 have h1:l[k]?=ab l[k]:=aW hk
 rw[h1]
 simp only[Option.toList_some,List.all_append,List.all_cons,List.all_nil,Option.getD_some,Bool.and_true]
theorem Fc(l:List Int)(k:Nat)(hk:k<l.length)(h:eF (l.getD k 0)=aa):ko l=aa:=by
 simp only[ko,List.all_eq_false]
 exact⟨l[k],List.getElem_mem hk,by simpa [my,hk] using h⟩
theorem pK.cons{w:ai}{x:Int}(h:pK w v (x::l)):∃g off cap,v=.slice (ab ⟨g,off,ak⟩) (l.length+1) cap/\g<w.heap.size/\l.length+1<=cap/\w.cell? ⟨g,off,ak⟩=ab (.int .i64 x):=by
 rcases h.2 with⟨h0,_⟩|⟨g,off,cap,cur,T,rfl,h2,h3,h4,h5⟩
 ·simp at h0
 ·refine⟨g,off,cap,rfl,(ah.1 h3).1,by simpa using h2,?_⟩
  have:=Sl.cells h (by simp) 0 _ (by simp;rfl)
  simpa [Addr.add] using this
theorem pK.nil{w:ai}(h:pK w v []):∃a cap,v=.slice a 0 cap:=by
 obtain⟨a,cap,rfl,_⟩:=Sl.form h
 exact⟨a,cap,rfl⟩
theorem pK.tail{w:ai}{x:Int}{off cap:Nat}(h:pK w (.slice (ab ⟨g,off,ak⟩) (l.length+1) cap) (x::l))(a':Option cr)(ha:1<cap->a'=ab ⟨g,off+1,ak⟩)(ha':a'≠ak)(hb:∀ad,a'=ab ad->ad.block=g):pK w (.slice a' l.length (cap-1)) l:=by
 have:=Sl.drop h (k:=1) (by simp) (by simp) a' (by simpa using ha) ha' hb
 simpa [pK] using this
def kB(room:Int)(l:List Int):Bool:=decide (1<=room) && decide (room<=16) && decide ((l.length:Int)<=room) && ko l
namespace Ab
inductive EL where
 |ints (l:List Int)
 |bK (l:List (Int×Int))
 |bytes (l:List UInt8)
 |k3 (l:List (Int×Int×Int))
def EL.len:EL->Nat
 |.ints l=>l.length
 |.bK l=>l.length
 |.bytes l=>l.length
 |.k3 l=>l.length
def EL.sz:EL->Nat
 |.ints _=>1
 |.bK _=>2
 |.bytes _=>1
 |.k3 _=>3
def EL.enc:EL->List aj
 |.ints l=>l.map (eE .i64)
 |.bK l=>l.flatMap λ g=>[.int .i64 g.1,.int .i64 g.2]
 |.bytes l=>l.map λ b=>eE .u8 b.toNat
 |.k3 l=>l.flatMap λ g=>[.int .i64 g.1,.int .i64 g.2.1,.int .i64 g.2.2]
def EL.take:EL->Nat->EL
 |.ints l,n=>.ints (l.take n)
 |.bK l,n=>.bK (l.take n)
 |.bytes l,n=>.bytes (l.take n)
 |.k3 l,n=>.k3 (l.take n)
def EL.drop:EL->Nat->EL
 |.ints l,n=>.ints (l.drop n)
 |.bK l,n=>.bK (l.drop n)
 |.bytes l,n=>.bytes (l.drop n)
 |.k3 l,n=>.k3 (l.drop n)
inductive EK where
 |ints
 |bK
 |bytes
 |k3
def EK.nil:EK->EL
 |.ints=>.ints []
 |.bK=>.bK []
 |.bytes=>.bytes []
 |.k3=>.k3 []
def EK.We:EK->Nat->EL
 |.ints,n=>.ints (aX n 0)
 |.bK,n=>.bK (aX n (0,0))
 |.bytes,n=>.bytes (aX n 0)
 |.k3,n=>.k3 (aX n (0,0,0))
inductive LV where
 |v (x:aj)
 |p (k off:Nat)
 |s (k eC:Nat)
 |w (k eC sz i n:Nat)
 |f (l:EL)
 |fx (v:aj) (l:EL)
 |e (k eC sz i off:Nat)
 |g (l:EL) (i off:Nat)
 |o (T:Option au) (k:Nat)
 |m (k:Nat)
 |j
inductive AV where
 |l (x:LV)
 |a (cs:List LV)
 |t (xs:List (LV⊕List LV))
 |j
inductive HB where
 |b (cs:List LV) (T:au)
 |r (eC:Nat) (E:au) (l:EL)
 |d
 |x (Φ:Obj->Prop)
abbrev Fr:=List AV
abbrev Hp:=List HB
inductive TK where
 |leaf
 |bool
 |int (k:cZ)
 |struct (fs:List (Nat×Nat×Bool))
 |arr (n:Nat) (e:au) (jU:Nat) (zea:Bool)
 |slice (e:au) (jU:Nat) (ek:EK)
 |osl (e:au)
 |str
 |ptr (e:au)
 |chan
 |map
structure TI where
 sz:Nat
 agg:Bool
 zero:List aj
 zl:List LV
 bytes:Nat
 kind:TK
 eqs:Option (List (Option cZ))
 ms:List (String×ck×Bool)
abbrev oU:=List (au×TI)
def DG:oU->au->(TI->Prop)->Prop
 |[],_,_=>False
 |(t',i)::r,t,K=>match cQ t' t with
  |true=>K i
  |false=>DG r t K
def Jz:Fr->Nat->(AV->Prop)->Prop
 |[],_,_=>False
 |a::_,0,K=>K a
 |_::r,n+1,K=>Jz r n K
def JF:Fr->Nat->AV->(Fr->Prop)->Prop
 |[],_,_,_=>False
 |_::r,0,x,K=>K (x::r)
 |a::r,n+1,x,K=>JF r n x λ r'=>K (a::r')
def qw(fr:Fr)(d:Option Tmp)(x:AV)(K:Fr->Prop):Prop:=match d with
 |none=>K fr
 |some d=>JF fr d x K
def wu:Hp->Nat->(HB->Prop)->Prop
 |[],_,_=>False
 |a::_,0,K=>K a
 |_::r,n+1,K=>wu r n K
def E1:Hp->Nat->HB->(Hp->Prop)->Prop
 |[],_,_,_=>False
 |_::r,0,x,K=>K (x::r)
 |a::r,n+1,x,K=>E1 r n x λ r'=>K (a::r')
def Ym:Hp->Nat->HB->(Nat->Hp->Prop)->Prop
 |[],k,x,K=>K k [x]
 |a::r,k,x,K=>Ym r (k+1) x λ n r'=>K n (a::r')
def GG:List LV->Nat->(List LV->Prop)->Prop
 |cs,0,K=>K cs
 |[],_+1,_=>False
 |_::cs,n+1,K=>GG cs n K
def GO:List LV->Nat->(List LV->Prop)->Prop
 |_,0,K=>K []
 |[],_+1,_=>False
 |c::cs,n+1,K=>GO cs n λ r=>K (c::r)
def YO:List LV->List LV->(List LV->Prop)->Prop
 |cs,[],K=>K cs
 |[],_::_,_=>False
 |_::cs,v::vs,K=>YO cs vs λ r=>K (v::r)
def AW:List LV->Nat->List LV->(List LV->Prop)->Prop
 |cs,0,vs,K=>YO cs vs K
 |[],_+1,_,_=>False
 |c::cs,n+1,vs,K=>AW cs n vs λ r=>K (c::r)
def zaK(cs:List LV)(off sz:Nat)(agg:Bool)(K:AV->Prop):Prop:=
 GG cs off λ r=>GO r sz λ q=>match agg with
  |true=>K (.a q)
  |false=>match q with
   |[x]=>K (.l x)
   |_=>False
inductive az(p q:Prop):Prop where
 |mk (hp:p) (hq:q)
def O9:List LV->Nat->Prop->Prop
 |[],0,p=>p
 |_::r,n+1,p=>O9 r n p
 |_,_,_=>False
inductive Br(t:Bool)(p q:Prop):Prop where
 |mk (ht:t=ae->p) (hf:t=aa->q)
inductive End(p:Prop):Prop where
 |mk (h:p)
inductive Fork(p q:Prop):Prop where
 |mk (hp:p) (hq:q)
theorem brT{p q:Prop}(h:p):Br ae p q:=.mk (λ _=>h) (λ e=>zHC e)
theorem vg{t:Bool}{p q:Prop}(e:t=ae)(h:p):Br t p q:=e▸brT h
theorem brF{p q:Prop}(h:q):Br aa p q:=.mk (λ e=>zHC e) (λ _=>h)
theorem vf{t:Bool}{p q:Prop}(e:t=aa)(h:q):Br t p q:=e▸brF h
def za4(v:aj)(K:AV->Prop):Prop:=match v with
 |.bool b=>K (.l (.v (.bool b)))
 |.int k n=>K (.l (.v (.int k n)))
 |.string s=>K (.l (.v (.string s)))
 |.slice ak 0 0=>K (.l (.v (.slice ak 0 0)))
 |.pointer ak=>K (.l (.v (.pointer ak)))
 |.nilIface=>K (.l (.v .nilIface))
 |.nilFunc=>K (.l (.v .nilFunc))
 |_=>False
def w9(fr:Fr)(x:bp)(K:AV->Prop):Prop:=match x with
 |.tmp t=>Jz fr t K
 |.const v=>za4 v K
 |.func f=>K (.l (.v (.func (.func f) #[] #[])))
 |.global g=>K (.l (.v (.pointer (ab ⟨g,0,ak⟩))))
def Yo(fr:Fr):List bp->(List AV->Prop)->Prop
 |[],K=>K []
 |x::r,K=>w9 fr x λ a=>Yo fr r λ vs0=>K (a::vs0)
def rng:cZ->Int->Prop
 |.i64,n=>-9223372036854775808<=n/\n<=9223372036854775807
 |.u8,n=>0<=n/\n<=255
 |_,_=>False
theorem Wf{n:Int}(h:-9223372036854775808<=n/\n<=9223372036854775807):rng .i64 n:=h
theorem zzJ{n:Int}(h:0<=n/\n<=255):rng .u8 n:=h
abbrev I(k:cZ)(n:Int):AV:=.l (.v (.int k n))
abbrev B(b:Bool):AV:=.l (.v (.bool b))
def zrc(op:lu)(k:cZ)(x y:Int)(K:AV->Prop):Prop:=match op with
 |.add=>az (rng k (x+y)) <| K (I k (x+y))
 |.sub=>az (rng k (x-y)) <| K (I k (x-y))
 |.mul=>az (rng k (x*y)) <| K (I k (x*y))
 |.quo=>Br (decide (x<0)) (az (0<y/\rng k (0-(0-x)/y)) <| K (I k (0-(0-x)/y))) (az (0<=x/\0<y/\rng k (x/y)) <| K (I k (x/y)))
 |.rem=>az (0<=x/\0<y) <| K (I k (x % y))
 |.and=>K (I k (k.wrap (aZ k.bits x &&& aZ k.bits y).toNat))
 |.or=>K (I k (k.wrap (aZ k.bits x ||| aZ k.bits y).toNat))
 |.xor=>K (I k (k.wrap (aZ k.bits x ^^^ aZ k.bits y).toNat))
 |.andNot=>K (I k (k.wrap (aZ k.bits x &&& ~~~(aZ k.bits y)).toNat))
 |.eql=>K (B (decide (x=y)))
 |.neq=>K (B (!decide (x=y)))
 |.lss=>K (B (decide (x<y)))
 |.leq=>K (B (decide (x<=y)))
 |.gtr=>K (B (decide (y<x)))
 |.geq=>K (B (decide (y<=x)))
 |_=>False
def shK(op:lu)(k:cZ)(x y:Int)(K:AV->Prop):Prop:=match op with
 |.shl=>az (0<=y) <| K (I k (k.wrap (x*2 ^ (min y.toNat k.bits))))
 |.shr=>az (0<=y) <| K (I k (x.fdiv (2 ^ (min y.toNat k.bits))))
 |_=>False
def zmE:lu->Bool
 |.shl|.shr=>ae
 |_=>aa
def eq1(k:Option cZ)(x y:LV)(K:Bool->Prop):Prop:=match k with
 |some _=>(match x with
  |.v (.int k1 a)=>(match y with
   |.v (.int k2 b)=>az (k1=k2) <| K (decide (a=b))
   |_=>False)
  |_=>False)
 |none=>(match x with
  |.v (.bool a)=>(match y with
   |.v (.bool b)=>K (a == b)
   |_=>False)
  |_=>False)
def Yn:List (Option cZ)->List LV->List LV->(Bool->Prop)->Prop
 |[],[],[],K=>K ae
 |k::ks,x::xs,y::ys,K=>eq1 k x y λ b=>Yn ks xs ys λ c=>K (b && c)
 |_,_,_,_=>False
def zqQ(T:oU)(op:lu)(t:au)(a b:AV)(K:AV->Prop):Prop:=match a with
 |.l (.v (.int k x))=>(match b with
  |.l (.v (.int k' y))=>(match zmE op with
   |true=>shK op k x y K
   |false=>az (k=k') <| zrc op k x y K)
  |_=>False)
 |.l (.v (.bool x))=>(match b with
  |.l (.v (.bool y))=>DG T t λ ti=>(match ti.kind with
   |.bool=>(match op with
    |.eql=>K (B (x == y))
    |.neq=>K (B (!(x == y)))
    |_=>False)
   |_=>False)
  |_=>False)
 |.a xs=>(match b with
  |.a ys=>DG T t λ ti=>(match ti.eqs with
   |some ks=>(match op with
    |.eql=>Yn ks xs ys λ c=>K (B c)
    |.neq=>Yn ks xs ys λ c=>K (B (!c))
    |_=>False)
   |none=>False)
  |_=>False)
 |.l (.v (.string x))=>(match b with
  |.l (.v (.string y))=>(match op with
   |.eql=>K (B (x.toList == y.toList))
   |.neq=>K (B (!(x.toList == y.toList)))
   |_=>False)
  |_=>False)
 |.l (.v (.pointer p))=>(match b with
  |.l (.v (.pointer ak))=>DG T t λ ti=>(match ti.kind with
   |.ptr _=>(match op with
    |.eql=>K (B p.isNone)
    |.neq=>K (B (!p.isNone))
    |_=>False)
   |_=>False)
  |_=>False)
 |.l (.p _ _)=>(match b with
  |.l (.v (.pointer ak))=>DG T t λ ti=>(match ti.kind with
   |.ptr _=>(match op with
    |.eql=>K (B aa)
    |.neq=>K (B ae)
    |_=>False)
   |_=>False)
  |_=>False)
 |_=>False
def elK(l:EL)(i off:Nat)(agg:Bool)(sz:Nat)(K:AV->Prop):Prop:=match l with
 |.ints l=>(match agg with
  |true=>False
  |false=>(match off with
   |0=>K (I .i64 (l.getD i 0))
   |_=>False))
 |.bytes l=>(match agg with
  |true=>False
  |false=>(match off with
   |0=>K (I .u8 ((l.getD i 0).toNat:Int))
   |_=>False))
 |.bK l=>(match agg with
  |true=>(match off with
   |0=>(match sz with
    |2=>K (.a [.v (.int .i64 (l.getD i (0,0)).1),.v (.int .i64 (l.getD i (0,0)).2)])
    |_=>False)
   |_=>False)
  |false=>(match off with
   |0=>K (I .i64 (l.getD i (0,0)).1)
   |1=>K (I .i64 (l.getD i (0,0)).2)
   |_=>False))
 |.k3 l=>(match agg with
  |true=>(match off with
   |0=>(match sz with
    |3=>K (.a [.v (.int .i64 (l.getD i (0,0,0)).1),.v (.int .i64 (l.getD i (0,0,0)).2.1),.v (.int .i64 (l.getD i (0,0,0)).2.2)])
    |_=>False)
   |_=>False)
  |false=>(match off with
   |0=>K (I .i64 (l.getD i (0,0,0)).1)
   |1=>K (I .i64 (l.getD i (0,0,0)).2.1)
   |2=>K (I .i64 (l.getD i (0,0,0)).2.2)
   |_=>False))
def xg(hp:Hp)(k eC:Nat)(K:au->EL->Prop):Prop:=wu hp k λ h=>match h with
 |.r nh E l=>(match cQ eC nh with
  |true=>K E l
  |false=>False)
 |_=>False
def V8:List Nat->Nat->Bool
 |[],_=>aa
 |a::r,k=>match cQ a k with
  |true=>ae
  |false=>V8 r k
def JK:Option (Nat×List Nat)->Nat->Bool
 |none,_=>ae
 |some (n,W),k=>Nat.blt k n && !V8 W k
def A0:Option (Nat×List Nat)->Nat->Bool
 |none,_=>ae
 |some (n,W),k=>V8 W k || hY n k
def Yp:List (Nat×Nat×Bool)->Nat->(Nat->Nat->Bool->Prop)->Prop
 |[],_,_=>False
 |(o,s,g)::_,0,K=>K o s g
 |_::r,n+1,K=>Yp r n K
def zrn:List (LV⊕List LV)->Nat->(AV->Prop)->Prop
 |[],_,_=>False
 |.inl x::_,0,K=>K (.l x)
 |.inr cs::_,0,K=>K (.a cs)
 |_::r,n+1,K=>zrn r n K
def yJ(a:AV)(K:List LV->Prop):Prop:=match a with
 |.l x=>K [x]
 |.a cs=>K cs
 |_=>False
def zcU(fr:Fr)(fs:List (Nat×Nat×Bool)):List (Nat×bp)->List LV->(List LV->Prop)->Prop
 |[],cs,K=>K cs
 |(i,x)::r,cs,K=>Yp fs i λ off sz _=>w9 fr x λ a=>yJ a λ vs=>O9 vs sz (AW cs off vs λ kT=>zcU fr fs r kT K)
def Ws(fr:Fr)(jU:Nat):List (Nat×bp)->List LV->(List LV->Prop)->Prop
 |[],cs,K=>K cs
 |(i,x)::r,cs,K=>w9 fr x λ a=>yJ a λ vs=>O9 vs jU (AW cs (i*jU) vs λ kT=>Ws fr jU r kT K)
def zc6(hp:Hp)(ek:EK)(a:AV)(K:EL->Prop):Prop:=match a with
 |.l (.f l)=>K l
 |.l (.s k eC)=>xg hp k eC λ _ l=>K l
 |.l (.w k eC sz i n)=>xg hp k eC λ _ l=>az (cQ sz l.sz=ae) <| az (i+n<=l.len) <| K ((l.drop i).take n)
 |.l (.v (.slice ak 0 0))=>K ek.nil
 |_=>False
def JJ(hp:Hp)(a:AV)(K:Nat->Prop):Prop:=match a with
 |.l (.f l)=>K l.len
 |.l (.fx _ l)=>K l.len
 |.l (.s k eC)=>xg hp k eC λ _ l=>K l.len
 |.l (.w k eC _ _ n)=>xg hp k eC λ _ _=>K n
 |.l (.v (.slice _ n _))=>K n
 |_=>False
def zrg(fr:Fr)(x:Option bp)(d:Int)(K:Int->Prop):Prop:=match x with
 |none=>K d
 |some x=>w9 fr x λ a=>match a with
  |.l (.v (.int _ n))=>K n
  |_=>False
def zut(jU:Nat)(a:AV)(hp:Hp)(fr:Fr)(lo hi:Option bp)(K:AV->Prop):Prop:=
 JJ hp a λ n=>zrg fr lo 0 λ i=>zrg fr hi n λ h=>az (0<=i/\i<=h/\h<=n) <| match a with
  |.l (.f l)=>az (cQ jU l.sz=ae) <| K (.l (.f ((l.drop i.toNat).take (h.toNat-i.toNat))))
  |.l (.s k eC)=>xg hp k eC λ _ l=>az (cQ jU l.sz=ae) <| K (.l (.w k eC jU i.toNat (h.toNat-i.toNat)))
  |.l (.w k eC sz i0 _)=>xg hp k eC λ _ _=>az (cQ jU sz=ae) <| K (.l (.w k eC sz (i0+i.toNat) (h.toNat-i.toNat)))
  |_=>False
def yI(x y:Int):Int:=if y<x then y else x
def zuM(x y:Int):Int:=if x<y then y else x
def zhz:List LV->(List aj->Prop)->Prop
 |[],K=>K []
 |.v x::r,K=>zhz r λ us=>K (x::us)
 |_,_=>False
def zc2:List (String×ck×Bool)->String->(ck->Bool->Prop)->Prop
 |[],_,_=>False
 |(n,f,p)::r,m,K=>match n == m with
  |true=>K f p
  |false=>zc2 r m K
def SP(es:List (Int×aj))(o:Obj):Prop:=∃en cl,o=.map en cl/\en.toList.map (λ e=>(e.key,e.val))=es.map λ x=>(eE .i64 x.1,x.2)
def V7:List (Int×aj)->Int->Option aj
 |[],_=>ak
 |(k,v)::r,n=>match decide (k=n) with
  |true=>ab v
  |false=>V7 r n
def UR(T:oU)(W:Option (Nat×List Nat))(fr:Fr)(hp:Hp)(op:Op)(K:AV->Prop):Prop:=match op with
 |.move x=>w9 fr x K
 |.assign x=>w9 fr x K
 |.pick c a b=>w9 fr c λ cv=>match cv with
  |.l (.v (.bool t))=>Br t (w9 fr a K) (w9 fr b K)
  |_=>False
 |.binOp op t x y _=>w9 fr x λ a=>w9 fr y λ b=>zqQ T op t a b K
 |.unOp op _ x=>w9 fr x λ a=>(match op with
  |.not=>(match a with
   |.l (.v (.bool b))=>K (B (!b))
   |_=>False)
  |.neg=>(match a with
   |.l (.v (.int k n))=>az (rng k (0-n)) <| K (I k (0-n))
   |_=>False)
  |_=>False)
 |.extract x i=>w9 fr x λ a=>(match a with
  |.t xs=>zrn xs i K
  |_=>False)
 |.build t parts=>DG T t λ ti=>(match ti.kind with
  |.struct fs=>zcU fr fs parts.toList ti.zl λ cs=>K (.a cs)
  |.arr _ _ jU _=>Ws fr jU parts.toList ti.zl λ cs=>K (.a cs)
  |_=>False)
 |.field t x f=>w9 fr x λ a=>(match a with
  |.a cs=>DG T t λ ti=>(match ti.kind with
   |.struct fs=>Yp fs f λ off sz agg=>zaK cs off sz agg K
   |_=>False)
  |_=>False)
 |.fieldAddr t x f=>w9 fr x λ a=>DG T t λ ti=>(match ti.kind with
  |.struct fs=>Yp fs f λ fo _ _=>(match a with
   |.l (.p k off)=>K (.l (.p k (off+fo)))
   |.l (.e k eC sz i off)=>xg hp k eC λ _ _=>K (.l (.e k eC sz i (off+fo)))
   |.l (.g l i off)=>K (.l (.g l i (off+fo)))
   |_=>False)
  |_=>False)
 |.indexAddr t x i=>w9 fr x λ a=>w9 fr i λ b=>(match b with
  |.l (.v (.int _ n))=>DG T t λ ti=>(match ti.kind with
   |.slice _ jU _=>JJ hp a λ m=>az (0<=n/\n<m) <| (match a with
    |.l (.f l)=>az (cQ jU l.sz=ae) <| K (.l (.g l n.toNat 0))
    |.l (.fx _ l)=>az (cQ jU l.sz=ae) <| K (.l (.g l n.toNat 0))
    |.l (.s k eC)=>xg hp k eC λ _ l=>az (cQ jU l.sz=ae) <| K (.l (.e k eC jU n.toNat 0))
    |.l (.w k eC sz i0 _)=>xg hp k eC λ _ _=>az (cQ jU sz=ae) <| K (.l (.e k eC sz (i0+n.toNat) 0))
    |_=>False)
   |.arr m _ jU _=>az (0<=n/\n<m) <| (match a with
    |.l (.p k off)=>K (.l (.p k (off+n.toNat*jU)))
    |_=>False)
   |_=>False)
  |_=>False)
 |.index t x i=>w9 fr x λ a=>w9 fr i λ b=>(match b with
  |.l (.v (.int _ n))=>DG T t λ ti=>(match ti.kind with
   |.arr m _ jU zea=>az (0<=n/\n<m) <| (match a with
    |.a cs=>zaK cs (n.toNat*jU) jU zea K
    |_=>False)
   |_=>False)
  |_=>False)
 |.load t x=>w9 fr x λ a=>DG T t λ ti=>(match a with
  |.l (.p k off)=>az (JK W k=ae) <| wu hp k λ h=>(match h with
   |.b cs _=>zaK cs off ti.sz ti.agg K
   |_=>False)
  |.l (.e k eC sz i off)=>az (JK W k=ae) <| xg hp k eC λ _ l=>az (cQ sz l.sz=ae) <| az (i<l.len) <| elK l i off ti.agg ti.sz K
  |.l (.g l i off)=>az (i<l.len) <| elK l i off ti.agg ti.sz K
  |_=>False)
 |.slice t x lo hi mx=>(match mx with
  |none=>w9 fr x λ a=>DG T t λ ti=>(match ti.kind with
   |.slice _ jU _=>zut jU a hp fr lo hi K
   |_=>False)
  |some _=>False)
 |.nilCheck x=>w9 fr x λ a=>(match a with
  |.l (.p k off)=>K (.l (.p k off))
  |_=>False)
 |.makeInterface t x=>w9 fr x λ a=>DG T t λ ti=>(match a with
  |.l (.p k 0)=>(match ti.kind with
   |.ptr _=>K (.l (.o (ab t) k))
   |_=>False)
  |.a cs=>(match ti.kind with
   |.struct _=>zhz cs λ us=>K (.l (.v (.iface t (.agg us.toArray))))
   |_=>False)
  |_=>False)
 |.typeAssert x _ t ok=>(match ok with
  |true=>False
  |false=>w9 fr x λ a=>DG T t λ ti=>(match a with
   |.l (.v (.iface t' (.agg us)))=>(match ti.kind with
    |.struct _=>az (cQ t' t=ae) <| az (us.toList.all (·.oneCell')=ae) <| K (.a (us.toList.map .v))
    |_=>False)
   |_=>False))
 |.lookup t x i ok=>(match ok with
  |true=>False
  |false=>w9 fr x λ a=>w9 fr i λ b=>(match a with
   |.l (.m k)=>(match b with
    |.l (.v (.int .i64 n))=>DG T t λ ti=>(match ti.kind with
     |.map=>az (JK W k=ae) <| wu hp k λ h=>(match h with
      |.x Φ=>∃es v,(∀o,Φ o->SP es o)/\V7 es n=ab v/\v.oneCell'=ae/\K (.l (.v v))
      |_=>False)
     |_=>False)
    |_=>False)
   |_=>False))
 |.convert s d x=>w9 fr x λ a=>DG T s λ _=>(match a with
  |.l (.v (.int _ n))=>DG T d λ ti=>(match ti.kind with
   |.int k=>az (rng k n) <| K (I k n)
   |_=>False)
  |_=>False)
 |.call c=>(match c.callee with
  |.builtin .len=>Yo fr c.args.toList λ vs0=>(match vs0 with
   |[a]=>(match c.argTypes.toList with
    |[t]=>DG T t λ ti=>(match ti.kind with
     |.slice _ _ _=>JJ hp a λ n=>K (I .i64 n)
     |.osl _=>JJ hp a λ n=>K (I .i64 n)
     |.str=>(match a with
      |.l (.v (.string s))=>K (I .i64 s.size)
      |_=>False)
     |_=>False)
    |_=>False)
   |_=>False)
  |.builtin .min=>Yo fr c.args.toList λ vs0=>(match vs0 with
   |[.l (.v (.int k x)),.l (.v (.int _ y))]=>K (I k (yI x y))
   |_=>False)
  |.builtin .max=>Yo fr c.args.toList λ vs0=>(match vs0 with
   |[.l (.v (.int k x)),.l (.v (.int _ y))]=>K (I k (zuM x y))
   |_=>False)
  |_=>False)
 |_=>False
structure CS where
 S:List AV->Hp->(AV->Hp->Prop)->Prop
 C4:List AV->Option (List Nat)
abbrev Env:=List (Nat×CS)
def csK:Env->Nat->(CS->Prop)->Prop
 |[],_,_=>False
 |(f',c)::r,f,K=>match cQ f' f with
  |true=>K c
  |false=>csK r f K
def Wa(rsv:Option Nat)(hp:Hp)(x:HB)(K:Nat->Hp->Prop):Prop:=match rsv with
 |none=>Ym hp 0 x K
 |some k=>wu hp k λ h=>match h with
  |.d=>E1 hp k x λ bG=>K k bG
  |_=>False
def LQ(ek:EK)(cs:List LV)(K:EL->Prop):Prop:=match ek with
 |.ints=>go cs K
 |.bK=>go2 cs K
 |.bytes=>(match cs with
  |[]=>K (.bytes [])
  |_=>False)
 |.k3=>go3 cs K
 where
 go:List LV->(EL->Prop)->Prop
  |[],K=>K (.ints [])
  |.v (.int .i64 n)::r,K=>go r λ e=>match e with
   |.ints l=>K (.ints (n::l))
   |_=>False
  |_,_=>False
 go2:List LV->(EL->Prop)->Prop
  |[],K=>K (.bK [])
  |.v (.int .i64 n)::.v (.int .i64 m)::r,K=>go2 r λ e=>match e with
   |.bK l=>K (.bK ((n,m)::l))
   |_=>False
  |_,_=>False
 go3:List LV->(EL->Prop)->Prop
  |[],K=>K (.k3 [])
  |.v (.int .i64 n)::.v (.int .i64 m)::.v (.int .i64 o)::r,K=>go3 r λ e=>match e with
   |.k3 l=>K (.k3 ((n,m,o)::l))
   |_=>False
  |_,_=>False
def JN(fr:Fr)(sz:Nat):Nat->Nat->List (Nat×bp)->(List LV->Prop)->Prop
 |_,0,[],K=>K []
 |i,n+1,(i',x)::r,K=>az (cQ i i'=ae) <| w9 fr x λ a=>yJ a λ vs=>O9 vs sz (JN fr sz (i+1) n r λ cs=>zhn vs cs K)
 |_,_,_,_=>False
 where
 zhn:List LV->List LV->(List LV->Prop)->Prop
  |[],cs,K=>K cs
  |v::vs,cs,K=>zhn vs cs λ r=>K (v::r)
def zoJ(l m:EL)(K:EL->Prop):Prop:=match l with
 |.ints x=>(match m with
  |.ints y=>K (.ints (x++y))
  |_=>False)
 |.bK x=>(match m with
  |.bK y=>K (.bK (x++y))
  |_=>False)
 |.bytes x=>(match m with
  |.bytes y=>K (.bytes (x++y))
  |_=>False)
 |.k3 x=>(match m with
  |.k3 y=>K (.k3 (x++y))
  |_=>False)
def zhr(l:EL)(i off:Nat)(vs:List LV)(K:EL->Prop):Prop:=match l with
 |.ints l=>(match off with
  |0=>(match vs with
   |[.v (.int .i64 x)]=>K (.ints (l.set i x))
   |_=>False)
  |_=>False)
 |.bK l=>(match off with
  |0=>(match vs with
   |[.v (.int .i64 x)]=>K (.bK (l.set i (x,(l.getD i (0,0)).2)))
   |[.v (.int .i64 x),.v (.int .i64 y)]=>K (.bK (l.set i (x,y)))
   |_=>False)
  |1=>(match vs with
   |[.v (.int .i64 y)]=>K (.bK (l.set i ((l.getD i (0,0)).1,y)))
   |_=>False)
  |_=>False)
 |.bytes _=>False
 |.k3 l=>(match off with
  |0=>(match vs with
   |[.v (.int .i64 x),.v (.int .i64 y),.v (.int .i64 z)]=>K (.k3 (l.set i (x,y,z)))
   |_=>False)
  |_=>False)
def pM:Nat:=1099511627776
def zcS:Option (Nat×List Nat)->List Nat->Bool
 |_,[]=>ae
 |W,k::r=>A0 W k && zcS W r
def Px:Option (Nat×List Nat)->Option (List Nat)->Bool
 |W,ab l=>zcS W l
 |none,ak=>ae
 |some _,ak=>aa
def zO(l:List Int)(closed:Bool)(o:Obj):Prop:=∃s r,o=.chan 1 (l.map (eE .i64)).toArray closed s r aa
def zrb(T:oU)(W:Option (Nat×List Nat))(fr:Fr)(hp:Hp)(t:au)(x y z:bp)(K:Hp->Prop):Prop:=
 w9 fr x λ a=>w9 fr y λ b=>w9 fr z λ c=>DG T t λ ti=>(match ti.kind with
  |.map=>(match a with
   |.l (.m k)=>(match b with
    |.l (.v (.int .i64 n))=>(match c with
     |.l (.v v)=>az (A0 W k=ae) <| wu hp k λ h=>(match h with
      |.x Φ=>∃es,(∀o,Φ o->SP es o)/\V7 es n=ak/\E1 hp k (.x (SP (es++[(n,v)]))) K
      |_=>False)
     |_=>False)
    |_=>False)
   |_=>False)
  |_=>False)
def zeb(T:oU)(G:Env)(W:Option (Nat×List Nat))(rsv:Option Nat)(fr:Fr)(hp:Hp)(o:di)(K:Fr->Hp->Prop):Prop:=match o.op with
 |.alloc t=>DG T t λ ti=>Wa rsv hp (.b ti.zl t) λ k bG=>qw fr o.dst (.l (.p k 0)) λ bx=>K bx bG
 |.box t x=>w9 fr x λ a=>yJ a λ cs=>Wa rsv hp (.b cs t) λ k bG=>qw fr o.dst (.l (.p k 0)) λ bx=>K bx bG
 |.store t x y=>w9 fr x λ a=>w9 fr y λ b=>yJ b λ vs=>DG T t λ ti=>O9 vs ti.sz (match a with
  |.l (.p k off)=>az (A0 W k=ae) <| wu hp k λ h=>(match h with
   |.b cs T'=>AW cs off vs λ kT=>E1 hp k (.b kT T') λ bG=>qw fr o.dst .j λ bx=>K bx bG
   |_=>False)
  |.l (.e k eC sz i off)=>az (A0 W k=ae) <| xg hp k eC λ E l=>az (cQ sz l.sz=ae) <| az (i<l.len) <| zhr l i off vs λ l'=>E1 hp k (.r eC E l') λ bG=>qw fr o.dst .j λ bx=>K bx bG
  |_=>False)
 |.buildSlice t n parts=>DG T t λ ti=>(match ti.kind with
  |.slice e jU ek=>az (hY (n*jU) 16777216=ae) <| JN fr jU 0 n parts.toList λ cs=>LQ ek cs λ l=>Wa rsv hp (.r 0 e l) λ k bG=>qw fr o.dst (.l (.s k 0)) λ bx=>K bx bG
  |_=>False)
 |.makeSlice t n c=>DG T t λ ti=>(match ti.kind with
  |.slice e _ ek=>(match n with
   |.const (.int .i64 0)=>w9 fr c λ a=>(match a with
    |.l (.v (.int .i64 m))=>az (0<=m/\m<=1099511627776) <| Wa rsv hp (.r 0 e ek.nil) λ k bG=>qw fr o.dst (.l (.s k 0)) λ bx=>K bx bG
    |_=>False)
   |.tmp y=>w9 fr (.tmp y) λ a=>(match a with
    |.l (.v (.int .i64 m))=>w9 fr c λ a2=>(match a2 with
     |.l (.v (.int .i64 m2))=>az (0<=m/\m<=1099511627776) <| az (m=m2) <| Wa rsv hp (.r 0 e (ek.We m.toNat)) λ k bG=>qw fr o.dst (.l (.s k 0)) λ bx=>K bx bG
     |_=>False)
    |_=>False)
   |_=>False)
  |_=>False)
 |.makeChan t n=>DG T t λ ti=>(match ti.kind with
  |.chan=>(match n with
   |.const (.int .i64 1)=>Wa rsv hp (.x (zO [] aa)) λ k bG=>qw fr o.dst (.l (.o ak k)) λ bx=>K bx bG
   |_=>False)
  |_=>False)
 |.makeMap t r=>DG T t λ ti=>(match ti.kind with
  |.map=>(match r with
   |none=>Wa rsv hp (.x (SP [])) λ k bG=>qw fr o.dst (.l (.m k)) λ bx=>K bx bG
   |some _=>False)
  |_=>False)
 |.insert t x y z=>zrb T W fr hp t x y z λ bG=>qw fr o.dst .j λ bx=>K bx bG
 |.mapUpdate t x y z=>zrb T W fr hp t x y z λ bG=>qw fr o.dst .j λ bx=>K bx bG
 |.call c=>(match c.callee with
  |.builtin .append=>(match c.args.toList with
   |[x,y]=>(match c.argTypes.toList with
    |[t,t2]=>DG T t λ ti=>(match ti.kind with
     |.slice e jU ek=>az (cQ t t2=ae) <| w9 fr x λ a=>w9 fr y λ b=>zc6 hp ek b λ m=>az (cQ jU m.sz=ae) <| (match a with
      |.l (.s k eC)=>az (A0 W k=ae) <| xg hp k eC λ E l=>az (cQ E e=ae) <| az (l.len+m.len<=pM) <| zoJ l m λ l'=>E1 hp k (.r (eC+1) e l') λ bG=>qw fr o.dst (.l (.s k (eC+1))) λ bx=>K bx bG
      |.l (.v (.slice ak 0 0))=>Ym hp 0 (.r 0 e m) λ k bG=>qw fr o.dst (.l (.s k 0)) λ bx=>K bx bG
      |_=>False)
     |_=>False)
    |_=>False)
   |_=>False)
  |.invoke r name=>w9 fr r λ a=>(match a with
   |.l (.o (ab t) k)=>DG T t λ ti=>zc2 ti.ms name λ f p=>csK G f λ c'=>Yo fr c.args.toList λ vs0=>(match p with
    |true=>az (Px W (c'.C4 (.l (.p k 0)::vs0))=ae) <| c'.S (.l (.p k 0)::vs0) hp λ r bG=>qw fr o.dst r λ bx=>K bx bG
    |false=>(match ti.kind with
     |.ptr e=>DG T e λ ei=>az (JK W k=ae) <| wu hp k λ h=>(match h with
      |.b cs _=>zaK cs 0 ei.sz ei.agg λ x=>az (Px W (c'.C4 (x::vs0))=ae) <| c'.S (x::vs0) hp λ r bG=>qw fr o.dst r λ bx=>K bx bG
      |_=>False)
     |_=>False))
   |_=>False)
  |.value (.func f)=>csK G f λ c'=>Yo fr c.args.toList λ vs0=>az (Px W (c'.C4 vs0)=ae) <| c'.S vs0 hp λ r bG=>qw fr o.dst r λ bx=>K bx bG
  |.value (.tmp d)=>Jz fr d λ fv=>(match fv with
   |.l (.v (.func (.func f) us vs))=>az (us=#[]) <| az (vs=#[]) <| csK G f λ c'=>Yo fr c.args.toList λ vs0=>az (Px W (c'.C4 vs0)=ae) <| c'.S vs0 hp λ r bG=>qw fr o.dst r λ bx=>K bx bG
   |_=>False)
  |_=>UR T ak fr hp o.op λ r=>qw fr o.dst r λ bx=>K bx hp)
 |_=>UR T ak fr hp o.op λ r=>qw fr o.dst r λ bx=>K bx hp
def Yq:List di->Nat->(di->Prop)->Prop
 |[],_,_=>False
 |a::_,0,K=>K a
 |_::r,n+1,K=>Yq r n K
def UU(all:List di)(fr:Fr)(o:di)(p q:Prop):Prop:=match o.guard with
 |none=>p
 |some (i,b)=>Yq all i λ oi=>(match oi.dst with
  |some d=>Jz fr d λ a=>(match a with
   |.l (.v (.bool t))=>(match b with
    |true=>Br t p q
    |false=>Br t q p)
   |.t xs=>(match xs with
    |[]=>q
    |_=>False)
   |_=>False)
  |none=>False)
def SS(T:oU)(G:Env)(all:List di):List di->Fr->Hp->(Fr->Hp->Prop)->Prop
 |[],fr,hp,K=>K fr hp
 |o::r,fr,hp,K=>UU all fr o (zeb T G ak ak fr hp o λ bx bG=>SS T G all r bx bG K) (qw fr o.dst (.t []) λ bx=>SS T G all r bx hp K)
def zvN:Op->Bool
 |.alloc _|.box _ _|.buildSlice ..|.makeSlice ..|.makeChan ..|.makeMap ..=>ae
 |_=>aa
def UN:List di->Nat->Nat
 |_,0=>0
 |[],_+1=>0
 |o::r,n+1=>match zvN o.op with
  |true=>UN r n+1
  |false=>UN r n
def JD:Nat->(Nat->Prop)->Prop
 |0,K=>K 0
 |n+1,K=>JD n λ m=>K (m+1)
def YN:List Nat->(List Nat->Prop)->Prop
 |[],K=>K []
 |a::r,K=>JD a λ a'=>YN r λ r'=>K (a'::r')
def stepT(T:oU)(G:Env)(all:List di)(W:Nat×List Nat)(base:Nat)(i k:Nat)(fr:Fr)(hp:Hp)(K:Fr->Hp->Prop):Prop:=Yq all i λ o=>(match k with
 |0=>UU all fr o (UR T (ab W) fr hp o.op λ r=>qw fr o.dst r λ bx=>K bx hp) (qw fr o.dst (.t []) λ bx=>K bx hp)
 |1=>UU all fr o (JD (base+UN all i) λ k=>zeb T G (ab W) (ab k) fr hp o K) (qw fr o.dst (.t []) λ bx=>K bx hp)
 |_=>UU all fr o (JD (base+UN all i) λ k=>zeb T G ak (ab k) fr hp o K) (qw fr o.dst (.t []) λ bx=>K bx hp))
def DK(T:oU)(G:Env)(all:List di)(W:Nat×List Nat)(base:Nat):Tr->Fr->Hp->(Fr->Hp->Prop)->Prop
 |.nil,fr,hp,K=>End (K fr hp)
 |.op i k t,fr,hp,K=>(match k with
  |0=>False
  |1=>False
  |_=>stepT T G all W base i 2 fr hp λ bx bG=>DK T G all W base t bx bG K)
 |.fork ..,_,_,_=>False
def rP(T:oU)(G:Env)(all:List di)(W:Nat×List Nat)(base:Nat):Tr->Fr->Hp->(Fr->Hp->Prop)->Prop
 |.nil,fr,hp,K=>End (K fr hp)
 |.op i k t,fr,hp,K=>(match k with
  |0=>stepT T G all W base i 0 fr hp λ bx bG=>rP T G all W base t bx bG K
  |1=>stepT T G all W base i 1 fr hp λ bx bG=>rP T G all W base t bx bG K
  |_=>stepT T G all W base i 2 fr hp λ bx bG=>DK T G all W base t bx bG K)
 |.fork i _ t j _ u,fr,hp,K=>
  Fork (∀K',(stepT T G all W base i 1 fr hp λ bx bG=>rP T G all W base t bx bG K')->stepT T G all W base j 1 fr hp λ bx bG=>rP T G all W base u bx bG K')
   (stepT T G all W base i 1 fr hp λ bx bG=>rP T G all W base t bx bG K)
def isApp(o:di):Bool:=match o.op with
 |.call c=>(match c.callee with
  |.builtin .append=>ae
  |_=>aa)
 |_=>aa
def zhE:List di->Bool
 |[]=>aa
 |o::r=>match isApp o with
  |true=>ae
  |false=>zhE r
def zzy(o:di):Bool:=match o.op with
 |.call c=>(match c.callee with
  |.builtin .append=>ae
  |.builtin .copy=>ae
  |.builtin _=>aa
  |_=>ae)
 |.store ..=>ae
 |_=>aa
def zoI:List di->Bool
 |[]=>aa
 |o::r=>match zzy o with
  |true=>ae
  |false=>zoI r
def zzM(ops:List di)(W0:List Nat)(rows:List Nat):List Nat:=match zoI ops with
 |false=>[]
 |true=>(match zhE ops with
  |true=>W0++rows
  |false=>W0)
def zv5(fr:Fr)(o:di):List Nat:=match o.op with
 |.store _ x _=>(match x with
  |.tmp d=>(match fr[d]? with
   |some (.l (.p k _))=>[k]
   |_=>[])
  |_=>[])
 |_=>[]
def zhw(fr:Fr)(ops:List di)(i k:Nat):List Nat:=match k with
 |1=>(match ops[i]? with
  |some o=>zv5 fr o
  |none=>[])
 |_=>[]
def stW(fr:Fr)(ops:List di):Tr->List Nat
 |.nil=>[]
 |.op i k t=>zhw fr ops i k++stW fr ops t
 |.fork i k t j l u=>zhw fr ops i k++(stW fr ops t++(zhw fr ops j l++stW fr ops u))
def rowsOf:Nat->Hp->List Nat
 |_,[]=>[]
 |k,.r ..::r=>k::rowsOf (k+1) r
 |k,_::r=>rowsOf (k+1) r
def Pd:Nat->Hp->(Hp->Prop)->Prop
 |0,hp,K=>K hp
 |n+1,hp,K=>Ym hp 0 .d λ _ bG=>Pd n bG K
inductive Xt where
 |n
 |x (id:Nat)
 |r
abbrev Go1:=Fr->Hp->(Xt->Fr->Hp->Prop)->Prop
def YK(X:Go1):Nat->Go1
 |0,_,_,_=>False
 |n+1,fr,hp,K=>X fr hp λ e bx bG=>match e with
  |.n=>YK X n bx bG K
  |.x id=>K (.x id) bx bG
  |.r=>K .r bx bG
def zd9(ρ:List Nat)(ht hs:Hp)(t s:LV):Prop:=match t with
 |.j=>True
 |.p k off=>(match s with
  |.p k' MZ=>ρ[k]?=ab k'/\off=MZ/\wu ht k λ h=>(match h with
   |.b _ _=>True
   |_=>False)
  |_=>False)
 |.s k eC=>(match s with
  |.s k' nh=>ρ[k]?=ab k'/\xg ht k eC (λ _ _=>xg hs k' nh λ _ _=>True)
  |_=>False)
 |.w k eC sz i n=>(match s with
  |.w k' nh sz' i' n'=>(ρ[k]?=ab k'/\sz=sz'/\i=i'/\n=n')/\xg ht k eC (λ _ _=>xg hs k' nh λ _ _=>True)
  |.s k' nh=>(ρ[k]?=ab k'/\i=0)/\xg ht k eC (λ _ _=>xg hs k' nh λ _ l=>n=l.len/\sz=l.sz)
  |_=>False)
 |.e ..=>False
 |.g ..=>False
 |.o T k=>(match s with
  |.o T' k'=>T=T'/\ρ[k]?=ab k'/\wu ht k λ h=>(match h with
   |.b _ _=>True
   |_=>False)
  |_=>False)
 |.m k=>(match s with
  |.m k'=>ρ[k]?=ab k'/\wu ht k λ h=>(match h with
   |.x _=>True
   |_=>False)
  |_=>False)
 |.v x=>.v x=s
 |.f l=>.f l=s
 |.fx v l=>.fx v l=s
def LI(ρ:List Nat)(ht hs:Hp):List LV->List LV->Prop->Prop
 |[],[],p=>p
 |t::ts,s::ss,p=>(match t with
  |.j=>LI ρ ht hs ts ss p
  |t=>az (zd9 ρ ht hs t s) <| LI ρ ht hs ts ss p)
 |_,_,_=>False
def zaJ(ρ:List Nat)(ht hs:Hp):Fr->Fr->Prop->Prop
 |[],[],p=>p
 |t::ts,s::ss,p=>(match t with
  |.j=>zaJ ρ ht hs ts ss p
  |.l x=>(match s with
   |.l y=>LI ρ ht hs [x] [y] (zaJ ρ ht hs ts ss p)
   |_=>False)
  |.a xs=>(match s with
   |.a ys=>LI ρ ht hs xs ys (zaJ ρ ht hs ts ss p)
   |_=>False)
  |.t _=>False)
 |_,_,_=>False
def Pj(N:Nat)(ρ:List Nat)(ht hs:Hp):Nat->List HB->List Nat->Prop->Prop
 |_,[],[],p=>p
 |i,t::ts,k::ks,p=>wu hs k λ s=>(match t with
  |.d=>az (hY N i=ae) <| Pj N ρ ht hs (i+1) ts ks p
  |.b cs T=>(match s with
   |.b kT T'=>az ((hY N i || cQ i k)=ae) <| az (cQ T T'=ae) <| LI ρ ht hs cs kT (Pj N ρ ht hs (i+1) ts ks p)
   |_=>False)
  |.r eC E l=>(match s with
   |.r nh E' l'=>az ((hY N i || (cQ i k && cQ eC nh))=ae) <| az (cQ E E'=ae) <| az (l=l') <| Pj N ρ ht hs (i+1) ts ks p
   |_=>False)
  |.x Φ=>(match s with
   |.x Φ'=>az ((hY N i || cQ i k)=ae) <| az (∀o,Φ' o->Φ o) <| Pj N ρ ht hs (i+1) ts ks p
   |_=>False))
 |_,_,_,_=>False
def SO:Hp->Nat
 |[]=>0
 |_::r=>SO r+1
def WA:List Nat->Bool
 |[]=>ae
 |a::r=>!V8 r a && WA r
def cov(N:Nat)(ρ:List Nat)(ft:Fr)(ht:Hp)(fs:Fr)(hs:Hp):Prop:=az ((WA ρ && hY N ρ.length && cQ (SO ht) ρ.length)=ae) <| Pj N ρ ht hs 0 ht ρ (zaJ ρ ht hs ft fs True)
def zgV:List (Nat×AV)->Fr->(Fr->Prop)->Prop
 |[],fr,K=>K fr
 |(k,x)::r,fr,K=>JF fr k x λ bx=>zgV r bx K
def zgW:List (Nat×HB)->Hp->(Hp->Prop)->Prop
 |[],hp,K=>K hp
 |(k,x)::r,hp,K=>E1 hp k x λ bG=>zgW r bG K
def YL:List Nat->Fr->(Fr->Prop)->Prop
 |[],fr,K=>K fr
 |k::r,fr,K=>JF fr k .j λ bx=>YL r bx K
def YC:Fr->(Fr->Prop)->Prop
 |[],K=>K []
 |a::r,K=>YC r λ r'=>(match a with
  |.l x=>K (.l x::r')
  |.a cs=>K (.a cs::r')
  |.t _=>K (.j::r')
  |.j=>K (.j::r'))
def vn(ws:List Nat)(fr:Fr)(hp:Hp)(u:List (Nat×AV))(v:List (Nat×HB))(K:Fr->Hp->Prop):Prop:=
 YC fr λ fr0=>YL ws fr0 λ fr1=>zgV u fr1 λ EP=>zgW v hp λ qC=>K EP qC
inductive UC(N:Nat)(X:Go1)(ws:List Nat)(fr:Fr)(hp:Hp)(K:Xt->Fr->Hp->Prop):Prop where
 |it (n:Nat) (h:YK X n fr hp K)
 |inv (σ:Type) (u:σ->List (Nat×AV)) (v:σ->List (Nat×HB)) (μ:σ->Nat) (x0:σ) (ρ:List Nat) (h0:vn ws fr hp (u x0) (v x0) λ ft ht=>cov N ρ ft ht fr hp)
  (h:∀x,vn ws fr hp (u x) (v x) λ ft ht=>X ft ht λ e bx bG=>match e with
   |.n=>∃x' ρ,μ x' < μ x/\vn ws fr hp (u x') (v x') λ ft' ht'=>cov N ρ ft' ht' bx bG
   |.x id=>K (.x id) bx bG
   |.r=>K .r bx bG)
 |zmD (m:Nat) (σ:Type) (u:σ->List (Nat×AV)) (v:σ->List (Nat×HB)) (μ:σ->Nat) (x0:σ) (ρ:List Nat) (h0:Pd m hp λ ku=>vn ws fr ku (u x0) (v x0) λ ft ht=>cov N ρ ft ht fr ku)
  (h:∀x,Pd m hp λ ku=>vn ws fr ku (u x) (v x) λ ft ht=>X ft ht λ e bx bG=>match e with
   |.n=>∃x' ρ,μ x' < μ x/\Pd m hp λ ku=>vn ws fr ku (u x') (v x') λ ft' ht'=>cov N ρ ft' ht' bx bG
   |.x id=>K (.x id) bx bG
   |.r=>K .r bx bG)
def zo5(N:Nat)(X:Go1)(ws:List Nat):Nat->Go1
 |0,fr,hp,K=>UC N X ws fr hp K
 |n+1,fr,hp,K=>X fr hp λ e bx bG=>match e with
  |.n=>zo5 N X ws n bx bG K
  |.x id=>K (.x id) bx bG
  |.r=>K .r bx bG
inductive iK(N:Nat)(X:Go1)(ws:List Nat)(fr:Fr)(hp:Hp)(K:Xt->Fr->Hp->Prop):Prop where
 |g (h:UC N X ws fr hp K)
 |un (n:Nat) (h:zo5 N X ws n fr hp K)
section
variable{N:Nat}{X:Go1}{ws:List Nat}{fr:Fr}{hp:Hp}{K:Xt->Fr->Hp->Prop}
theorem iK.it(n:Nat)(h:YK X n fr hp K):iK N X ws fr hp K:=.g (.it n h)
theorem iK.inv(σ:Type)(u:σ->List (Nat×AV))(v:σ->List (Nat×HB))(μ:σ->Nat)(x0:σ)(ρ:List Nat)(h0:vn ws fr hp (u x0) (v x0) λ ft ht=>cov N ρ ft ht fr hp)
  (h:∀x,vn ws fr hp (u x) (v x) λ ft ht=>X ft ht λ e bx bG=>match e with
   |.n=>∃x' ρ,μ x' < μ x/\vn ws fr hp (u x') (v x') λ ft' ht'=>cov N ρ ft' ht' bx bG
   |.x id=>K (.x id) bx bG
   |.r=>K .r bx bG):iK N X ws fr hp K:=.g (.inv σ u v μ x0 ρ h0 h)
theorem iK.zmD(m:Nat)(σ:Type)(u:σ->List (Nat×AV))(v:σ->List (Nat×HB))(μ:σ->Nat)(x0:σ)(ρ:List Nat)(h0:Pd m hp λ ku=>vn ws fr ku (u x0) (v x0) λ ft ht=>cov N ρ ft ht fr ku)
  (h:∀x,Pd m hp λ ku=>vn ws fr ku (u x) (v x) λ ft ht=>X ft ht λ e bx bG=>match e with
   |.n=>∃x' ρ,μ x' < μ x/\Pd m hp λ ku=>vn ws fr ku (u x') (v x') λ ft' ht'=>cov N ρ ft' ht' bx bG
   |.x id=>K (.x id) bx bG
   |.r=>K .r bx bG):iK N X ws fr hp K:=.g (.zmD m σ u v μ x0 ρ h0 h)
end
def zpa(t:Tr)(ops:Array di):Bool:=cQ t.len ops.size && zY ops && Pv .any ops t.flat && oL .any ops (cU ops.size aa) t
def zqT:List di->List Nat
 |[]=>[]
 |o::r=>match o.dst with
  |some d=>d::zqT r
  |none=>zqT r
def wrs:Code->List Nat
 |.region _ ops _=>zqT ops.toList
 |.seq a b=>wrs a++wrs b
 |.cond _ a b=>wrs a++wrs b
 |.block _ c=>wrs c
 |.loop c=>wrs c
 |_=>[]
def exec(T:oU)(G:Env)(N:Nat)(W0:List Nat)(TR:Nat->Tr):Code->Go1
 |.skip=>λ fr hp K=>K .n fr hp
 |.region id ops draw=>λ fr hp K=>(match draw with
  |false=>SS T G ops.toList ops.toList fr hp λ bx bG=>K .n bx bG
  |true=>az (zpa (TR id) ops=ae) <| Pd (UN ops.toList ops.size) hp λ bG=>JD (SO hp) λ base=>YN (zzM ops.toList W0 (rowsOf 0 hp)++stW fr ops.toList (TR id)) λ W=>rP T G ops.toList (base,W) base (TR id) fr bG λ bx bG=>K .n bx bG)
 |.seq a b=>λ fr hp K=>exec T G N W0 TR a fr hp λ e bx bG=>(match e with
  |.n=>exec T G N W0 TR b bx bG K
  |.x id=>K (.x id) bx bG
  |.r=>K .r bx bG)
 |.cond c a b=>λ fr hp K=>w9 fr c λ v=>(match v with
  |.l (.v (.bool t))=>Br t (exec T G N W0 TR a fr hp K) (exec T G N W0 TR b fr hp K)
  |_=>False)
 |.block id c=>λ fr hp K=>exec T G N W0 TR c fr hp λ e bx bG=>(match e with
  |.n=>K .n bx bG
  |.x id'=>(match cQ id' id with
   |true=>K .n bx bG
   |false=>K (.x id') bx bG)
  |.r=>K .r bx bG)
 |.loop c=>λ fr hp K=>iK N (exec T G N W0 TR c) (wrs c) fr hp K
 |.exit id=>λ fr hp K=>K (.x id) fr hp
 |.ret=>λ fr hp K=>K .r fr hp
 |_=>λ _ _ _=>False
def zri(T:oU)(fr:Fr)(hp:Hp):mz->(AV->Prop)->Prop
 |.tmp t,K=>Jz fr t K
 |.cell t ty,K=>UR T ak fr hp (.load ty (.tmp t)) K
def zhp(a:AV)(K:(LV⊕List LV)->Prop):Prop:=match a with
 |.l x=>K (.inl x)
 |.a cs=>K (.inr cs)
 |_=>False
def zhq(T:oU)(fr:Fr)(hp:Hp):List mz->(List (LV⊕List LV)->Prop)->Prop
 |[],K=>K []
 |r::rs,K=>zri T fr hp r λ a=>zhp a λ x=>zhq T fr hp rs λ xs=>K (x::xs)
def Wb(T:oU)(fr:Fr)(hp:Hp)(rs:List mz)(K:AV->Prop):Prop:=match rs with
 |[r]=>zri T fr hp r K
 |rs=>zhq T fr hp rs λ xs=>K (.t xs)
def C8:Nat->Fr->Fr
 |0,vs0=>vs0
 |n+1,[]=>.j::C8 n []
 |n+1,a::vs0=>a::C8 n vs0
def zN(T:oU)(G:Env)(N:Nat)(W0:List Nat)(TR:Nat->Tr)(fn:Func)(vs0:List AV)(hp:Hp)(K:AV->Hp->Prop):Prop:=match fn.body with
 |none=>False
 |some c=>exec T G N W0 TR c (C8 fn.ntmps vs0) hp λ e bx bG=>(match e with
  |.n=>Wb T bx bG fn.results.toList λ r=>K r bG
  |.r=>Wb T bx bG fn.results.toList λ r=>K r bG
  |.x _=>False)
end Ab
open Go.RowKit
namespace Ab
theorem ba{p q:Prop}:az p q↔p/\q:=⟨λ⟨a,b⟩=>⟨a,b⟩,λ⟨a,b⟩=>⟨a,b⟩⟩
theorem zdm{p:Prop}:End p↔p:=⟨λ⟨a⟩=>a,λ a=>⟨a⟩⟩
theorem Pr{t:Bool}{p q:Prop}:Br t p q↔(t=ae->p)/\(t=aa->q):=⟨λ⟨a,b⟩=>⟨a,b⟩,λ⟨a,b⟩=>⟨a,b⟩⟩
theorem za3{t:Bool}{p q:Prop}:Br t p q↔if t then p else q:=by
 rw[Pr];cases t<;>simp
theorem zyN{a b:Nat}(h:¬a=b):cQ a b=aa:=by
 cases hb:cQ a b with
 |false=>rfl
 |true=>exact absurd (bf hb) h
def tyL:oU->au->Option TI
 |[],_=>ak
 |(t',i)::r,t=>if t'=t then ab i else tyL r t
theorem eU{T:oU}{t:au}{K:TI->Prop}:DG T t K↔∃i,tyL T t=ab i/\K i:=by
 induction T with
 |nil=>simp[DG,tyL]
 |cons x r ih=>
  obtain⟨t',i⟩:=x
  by_cases h:t'=t
  ·subst h;simp[DG,tyL]
  ·have:cQ t' t=aa:=zyN h
   simp only[DG,tyL,this,if_neg h,ih]
theorem pW{fr:Fr}{n:Nat}{K:AV->Prop}:Jz fr n K↔∃x,fr[n]?=ab x/\K x:=by
 induction fr generalizing n with
 |nil=>simp[Jz]
 |cons a r ih=>cases n<;>simp[Jz,ih]
theorem jY{fr:Fr}{n:Nat}{x:AV}{K:Fr->Prop}:JF fr n x K↔n<fr.length/\K (fr.set n x):=by
 induction fr generalizing n K with
 |nil=>simp[JF]
 |cons a r ih=>cases n<;>simp[JF,ih]
variable{hp:Hp}
theorem iS{n:Nat}{K:HB->Prop}:wu hp n K↔∃x,hp[n]?=ab x/\K x:=by
 induction hp generalizing n with
 |nil=>simp[wu]
 |cons a r ih=>cases n<;>simp[wu,ih]
theorem nq{n:Nat}{x:HB}{K:Hp->Prop}:E1 hp n x K↔n<hp.length/\K (hp.set n x):=by
 induction hp generalizing n K with
 |nil=>simp[E1]
 |cons a r ih=>cases n<;>simp[E1,ih]
theorem PH{k:Nat}{x:HB}{K:Nat->Hp->Prop}:Ym hp k x K↔K (k+hp.length) (hp++[x]):=by
 induction hp generalizing k K with
 |nil=>simp[Ym]
 |cons a r ih=>simp[Ym,ih,gT,zm 1]
variable{cs:List LV}
theorem tt{n:Nat}{K:List LV->Prop}:GG cs n K↔n<=cs.length/\K (cs.drop n):=by
 induction cs generalizing n with
 |nil=>cases n<;>simp[GG]
 |cons a r ih=>cases n<;>simp[GG,ih]
theorem tC{n:Nat}{K:List LV->Prop}:GO cs n K↔n<=cs.length/\K (cs.take n):=by
 induction cs generalizing n K with
 |nil=>cases n<;>simp[GO]
 |cons a r ih=>cases n<;>simp[GO,ih]
theorem Vg{vs:List LV}{K:List LV->Prop}:YO cs vs K↔vs.length<=cs.length/\K (vs++cs.drop vs.length):=by
 induction vs generalizing cs K with
 |nil=>cases cs<;>simp[YO]
 |cons v vs ih=>cases cs<;>simp[YO,ih]
theorem J6{vs:List LV}{n:Nat}{K:List LV->Prop}:AW cs n vs K↔n+vs.length<=cs.length/\K (cs.take n++vs++cs.drop (n+vs.length)):=by
 induction cs generalizing n K with
 |nil=>
  cases n
  ·simp[AW,Vg]
  ·simp[AW]
 |cons a r ih=>
  cases n
  ·simp[AW,Vg]
  ·simp[AW,ih,Nat.add_right_comm]
theorem Bb{n:Nat}{p:Prop}:O9 cs n p↔cs.length=n/\p:=by
 induction cs generalizing n with
 |nil=>cases n<;>simp[O9]
 |cons a r ih=>cases n<;>simp[O9,ih]
theorem PI{fs:List (Nat×Nat×Bool)}{n:Nat}{K:Nat->Nat->Bool->Prop}:Yp fs n K↔∃o s g,fs[n]?=ab (o,s,g)/\K o s g:=by
 induction fs generalizing n with
 |nil=>simp[Yp]
 |cons a r ih=>
  obtain⟨o,s,g⟩:=a
  cases n with
  |zero=>
   simp only[Yp,bE,aF,bz]
   exact⟨λ h=>⟨_,_,_,⟨rfl,rfl,rfl⟩,h⟩,λ⟨_,_,_,⟨rfl,rfl,rfl⟩,h⟩=>h⟩
  |succ n=>simp only[Yp,gq,ih]
theorem pX{n:Nat}{K:Nat->Prop}:JD n K↔K n:=by
 induction n generalizing K with
 |zero=>simp[JD]
 |succ n ih=>simp[JD,ih]
theorem zeT{l:List Nat}{K:List Nat->Prop}:YN l K↔K l:=by
 induction l generalizing K with
 |nil=>simp[YN]
 |cons a r ih=>simp[YN,pX,ih]
theorem Ba{l:List di}{n:Nat}{K:di->Prop}:Yq l n K↔∃x,l[n]?=ab x/\K x:=by
 induction l generalizing n with
 |nil=>simp[Yq]
 |cons a r ih=>cases n<;>simp[Yq,ih]
theorem Cy(hp:Hp):SO hp=hp.length:=by
 induction hp with
 |nil=>rfl
 |cons a r ih=>simp[SO,ih]
theorem PX{n:Nat}{K:Hp->Prop}:Pd n hp K↔K (hp++aX n .d):=by
 induction n generalizing hp with
 |zero=>simp[Pd]
 |succ n ih=>simp[Pd,PH,ih,List.replicate_succ]
theorem PF{G:Env}{f:Nat}{K:CS->Prop}(h:csK G f K):∃c,(f,c)∈G/\K c:=by
 induction G with
 |nil=>simp[csK] at h
 |cons a r ih=>
  obtain⟨f',c⟩:=a
  cases hb:cQ f' f with
  |true=>
   have:f'=f:=by simpa using hb
   subst this
   simp only[csK,hb] at h
   exact⟨c,by simp,h⟩
  |false=>
   simp only[csK,hb] at h
   obtain⟨c',h1,h2⟩:=ih h
   exact⟨c',by simp[h1],h2⟩
theorem Hk{l: List Nat}{k: Nat} : V8 l k = ae ↔ k ∈ l := by
  induction l with
  | nil => simp [V8]
  | cons a r ih =>
    cases hb : cQ a k with
    | true => have : a = k := by simpa using hb
              subst this; simp [V8]
    | false => have : ¬ a = k := by intro e; subst e; simp at hb
               simp [V8, hb, ih, dr this]
structure Cx where
 w0:ai
 M:List Nat
structure wa(S:Nat->Prop)(w w':ai):Prop where
 os:w'.os=w.os
 tape:w'.tape=w.tape
 output:w'.output=w.output
 size:w.heap.size<=w'.heap.size
 block:∀b,b<w.heap.size->¬S b->w'.heap[b]?=w.heap[b]?
 rows:∀b,mU w b->mU w' b
theorem wa.refl(S:Nat->Prop)(w:ai):wa S w w:=⟨rfl,rfl,rfl,aA _,λ _ _ _=>rfl,λ _ h=>h⟩
theorem wa.trans{S:Nat->Prop}{a b c:ai}(h:wa S a b)(k:wa S b c):wa S a c:=
 ⟨k.os.trans h.os,k.tape.trans h.tape,k.output.trans h.output,bD h.size k.size,λ i hi hs=>(k.block i (aY hi h.size) hs).trans (h.block i hi hs),λ b hb=>k.rows b (h.rows b hb)⟩
theorem wa.mono{S S':Nat->Prop}{w w':ai}(h:wa S w w')(hs:∀b,b<w.heap.size->S b->S' b):wa S' w w':=
 ⟨h.os,h.tape,h.output,h.size,λ b hb hn=>h.block b hb λ e=>hn (hs b hb e),h.rows⟩
theorem wa.PS{S:Nat->Prop}{w w':ai}(h:cE w.heap.size w w'):wa S w w':=⟨h.os,h.tape,h.output,h.size,λ b hb _=>h.block b hb,λ b hb=>hb.same (h.block b hb.lt)⟩
theorem wa.zi1{w w':ai}{row:Option Nat}(h:w.grownBy w' row)(hr:∀g,mU w g->mU w' g):wa (λ b=>row=ab b) w w':=
 ⟨h.os,h.tape,h.output,h.size,λ b hb hn=>h.block b hb λ e=>hn e.symm,hr⟩
theorem wa.drew{S:Nat->Prop}{w w':ai}(h:wa S w w'):wa S w w'.drew:=⟨h.os,h.tape,h.output,h.size,h.block,h.rows⟩
theorem wa.below{w w':ai}(h:wa (λ _=>False) w w'):cE w.heap.size w w':=⟨h.os,h.tape,h.output,h.size,λ b hb=>h.block b hb id⟩
def FZ(cx:Cx)(v:aj)(l:EL):Prop:=Sl cx.w0 l.sz v l.len l.enc/\l.len<=pM/\(l.len≠0->∀b,v.ownBlock=ab b->b∉cx.M)
inductive En where
 |b (n:Nat)
 |r (v:aj) (eC:Nat)
 |x
def tK(v1:aj)(sz i n:Nat)(v:aj):Prop:=∃a c,v=.slice a n c/\((a=ak->c=0)/\∀ad,a=ab ad->v1.ownBlock=ab ad.block)/\
 (0<n->∃g n1 c1,v1=.slice (ab ⟨g,0,ak⟩) n1 c1/\a=ab ⟨g,i*sz,ak⟩/\n<=c/\c+i<=c1)
def LC(cx:Cx)(β:List En)(x:LV)(v:aj):Prop:=v.oneCell'=ae/\match x with
 |.v y=>v=y
 |.p k off=>∃n,β[k]?=ab (.b n)/\v=.pointer (ab ⟨n,off,ak⟩)
 |.s k eC=>∃v1 GD,β[k]?=ab (.r v1 GD)/\eC<=GD/\(eC=GD->v=v1)
 |.w k eC sz i n=>∃v1 GD,β[k]?=ab (.r v1 GD)/\eC<=GD/\(eC=GD->tK v1 sz i n v)
 |.f l=>FZ cx v l
 |.fx u l=>v=u/\FZ cx v l
 |.e k eC sz i off=>∃v1 GD,β[k]?=ab (.r v1 GD)/\eC<=GD/\(eC=GD->∃g n1 c1,v1=.slice (ab ⟨g,0,ak⟩) n1 c1/\v=.pointer (ab ⟨g,i*sz+off,ak⟩))
 |.o T k=>∃n,β[k]?=ab (.b n)/\v=(match T with
  |none=>.chan (ab n)
  |some t=>.iface t (.pointer (ab ⟨n,0,ak⟩)))
 |.m k=>∃n,β[k]?=ab (.b n)/\v=.map (ab n)
 |.g l i off=>∃v1 g o n c,FZ cx v1 l/\v1=.slice (ab ⟨g,o,ak⟩) n c/\v=.pointer (ab ⟨g,o+(i*l.sz+off),ak⟩)
 |.j=>True
def jP(cx:Cx)(β:List En):List LV->List aj->Prop
 |[],[]=>True
 |x::xs,v::vs=>LC cx β x v/\jP cx β xs vs
 |_,_=>False
def VO(cx:Cx)(β:List En):List (LV⊕List LV)->List aj->Prop
 |[],[]=>True
 |.inl x::xs,v::vs=>LC cx β x v/\VO cx β xs vs
 |.inr cs::xs,v::vs=>(∃us,v=.agg us/\jP cx β cs us.toList)/\VO cx β xs vs
 |_,_=>False
def AC(cx:Cx)(β:List En)(x:AV)(v:aj):Prop:=match x with
 |.l y=>LC cx β y v
 |.a cs=>∃us,v=.agg us/\jP cx β cs us.toList
 |.t xs=>∃vs,v=.tuple vs/\VO cx β xs vs.toList
 |.j=>True
def Uv(cx:Cx)(β:List En):List AV->List aj->Prop
 |[],[]=>True
 |x::xs,v::vs=>AC cx β x v/\Uv cx β xs vs
 |_,_=>False
def FR(cx:Cx)(β:List En)(fr:Fr)(tmps:Array aj):Prop:=fr.length=tmps.size/\∀i x,fr[i]?=ab x->AC cx β x (tmps.getD i undef)
def HOk(cx:Cx)(β:List En)(w:ai):HB->En->Prop
 |.b cs T,.b n=>(cx.w0.heap.size<=n\/n∈cx.M)/\∃us,w.heap[n]?=ab (.cells us T (0,0))/\jP cx β cs us.toList
 |.r eC E l,.r v nh=>nh=eC/\w.ownsRow cx.w0.heap.size E l.sz v l.len l.enc/\l.len<=pM
 |.d,.x=>True
 |.x Φ,.b n=>(cx.w0.heap.size<=n\/n∈cx.M)/\∃ob,w.heap[n]?=ab ob/\Φ ob
 |_,_=>False
def ow:HB->En->Option Nat
 |.b _ _,.b n=>ab n
 |.x _,.b n=>ab n
 |.r _ _ _,.r v _=>v.ownBlock
 |_,_=>ak
def ownB(hp:Hp)(β:List En)(k:Nat):Option Nat:=match hp[k]?,β[k]? with
 |some h,ab e=>ow h e
 |_,_=>ak
def Gw(_:ai):Prop:=True
def Gm(_:List Nat):Prop:=True
theorem Gw.keep{M:List Nat}{w w':ai}(_:Gw w)(_:Gm M)(_:wa (·∈M) w w'):Gw w':=trivial
theorem Gm.nil:Gm []:=trivial
theorem Gw.below{w w':ai}(_:Gw w)(_:cE w.heap.size w w'):Gw w':=trivial
theorem Gm.rd{w:ai}(_:Gw w){r:Nat}{us:Array aj}{T:au}{fr:Nat×Nat}(_:w.heap[r]?=ab (.cells us T fr))(_:us.size≠1):Gm [r]:=trivial
structure Inv(cx:Cx)(β:List En)(hp:Hp)(w:ai):Prop where
 kp:wa (·∈cx.M) cx.w0 w
 len:β.length=hp.length
 OZ:∀(k:Nat) h e,hp[k]?=ab h->β[k]?=ab e->HOk cx β w h e
 dis:∀(i k b:Nat),ownB hp β i=ab b->ownB hp β k=ab b->i=k
def Ext(β cT:List En):Prop:=∀(k:Nat) e,β[k]?=ab e->match e with
 |.b n=>cT[k]?=ab (.b n)
 |.r v eC=>∃v' nh,cT[k]?=ab (.r v' nh)/\eC<=nh/\(eC=nh->v'=v)
 |.x=>True
theorem Ext.refl(β:List En):Ext β β:=by
 intro k e h
 cases e with
 |b n=>exact h
 |r v eC=>exact⟨v,eC,h,aA _,λ _=>rfl⟩
 |x=>trivial
theorem Ext.trans{a b c:List En}(h:Ext a b)(k:Ext b c):Ext a c:=by
 intro i e he
 have h1:=h i e he
 cases e with
 |b n=>exact k i _ h1
 |r v eC=>
  obtain⟨v',nh,h2,h3,h4⟩:=h1
  obtain⟨v2,Au,h5,h6,h7⟩:=k i _ h2
  exact⟨v2,Au,h5,bD h3 h6,λ e=>(h7 (by omega)).trans (h4 (by omega))⟩
 |x=>trivial
variable{cx:Cx}{β cT:List En}
theorem LC.ext(hx:Ext β cT){x:LV}{v:aj}(h:LC cx β x v):LC cx cT x v:=by
 refine⟨h.1,?_⟩
 have h2:=h.2
 cases x with
 |p k off=>
  obtain⟨n,h1,h3⟩:=h2
  exact⟨n,hx k _ h1,h3⟩
 |o T k=>
  obtain⟨n,h1,h3⟩:=h2
  exact⟨n,hx k _ h1,h3⟩
 |m k=>
  obtain⟨n,h1,h3⟩:=h2
  exact⟨n,hx k _ h1,h3⟩
 |s k eC=>
  obtain⟨v1,GD,h1,h3,h4⟩:=h2
  obtain⟨v2,Au,h5,h6,h7⟩:=hx k _ h1
  exact⟨v2,Au,h5,by omega,λ e=>(h4 (by omega)).trans (h7 (by omega)).symm⟩
 |w k eC sz i n=>
  obtain⟨v1,GD,h1,h3,h4⟩:=h2
  obtain⟨v2,Au,h5,h6,h7⟩:=hx k _ h1
  exact⟨v2,Au,h5,by omega,λ e=>by rw[h7 (by omega)];exact h4 (by omega)⟩
 |e k eC sz i off=>
  obtain⟨v1,GD,h1,h3,h4⟩:=h2
  obtain⟨v2,Au,h5,h6,h7⟩:=hx k _ h1
  exact⟨v2,Au,h5,by omega,λ e=>by rw[h7 (by omega)];exact h4 (by omega)⟩
 |_=>exact h2
theorem jP.ext{cx:Cx}{β cT:List En}(hx:Ext β cT):∀{xs:List LV} {vs:List aj},jP cx β xs vs->jP cx cT xs vs
 |[],[],_=>trivial
 |_::_,_::_,h=>⟨h.1.ext hx,jP.ext hx h.2⟩
 |[],_::_,h=>h
 |_::_,[],h=>h
theorem VO.ext{cx:Cx}{β cT:List En}(hx:Ext β cT):∀{xs:List (LV⊕List LV)} {vs:List aj},VO cx β xs vs->VO cx cT xs vs
 |[],[],_=>trivial
 |.inl _::_,_::_,h=>⟨h.1.ext hx,VO.ext hx h.2⟩
 |.inr _::_,_::_,h=>⟨h.1.imp λ _ ⟨e,h1⟩=>⟨e,h1.ext hx⟩,VO.ext hx h.2⟩
 |[],_::_,h=>h
 |.inl _::_,[],h=>h
 |.inr _::_,[],h=>h
theorem AC.ext{cx:Cx}{β cT:List En}(hx:Ext β cT){x:AV}{v:aj}(h:AC cx β x v):AC cx cT x v:=by
 cases x with
 |l y=>exact LC.ext hx h
 |a cs=>obtain⟨us,h1,h2⟩:=h;exact⟨us,h1,h2.ext hx⟩
 |t xs=>obtain⟨us,h1,h2⟩:=h;exact⟨us,h1,h2.ext hx⟩
 |j=>trivial
theorem FR.ext{cx:Cx}{β cT:List En}(hx:Ext β cT){fr:Fr}{t:Array aj}(h:FR cx β fr t):FR cx cT fr t:=⟨h.1,λ i x hi=>(h.2 i x hi).ext hx⟩
theorem jP.length{cx:Cx}{β:List En}:∀{xs:List LV} {vs:List aj},jP cx β xs vs->xs.length=vs.length
 |[],[],_=>rfl
 |_::_,_::_,h=>by simp[jP.length h.2]
 |[],_::_,h=>h.elim
 |_::_,[],h=>h.elim
theorem jP.drop{cx:Cx}{β:List En}:∀{xs:List LV} {vs:List aj} (n:Nat),jP cx β xs vs->jP cx β (xs.drop n) (vs.drop n)
 |_,_,0,h=>h
 |[],[],_+1,_=>trivial
 |_::_,_::_,n+1,h=>jP.drop n h.2
 |[],_::_,_+1,h=>h.elim
 |_::_,[],_+1,h=>h.elim
theorem jP.take{cx:Cx}{β:List En}:∀{xs:List LV} {vs:List aj} (n:Nat),jP cx β xs vs->jP cx β (xs.take n) (vs.take n)
 |_,_,0,_=>by simp[jP]
 |[],[],_+1,_=>trivial
 |_::_,_::_,n+1,h=>⟨h.1,jP.take n h.2⟩
 |[],_::_,_+1,h=>h.elim
 |_::_,[],_+1,h=>h.elim
theorem jP.append{cx:Cx}{β:List En}:∀{xs:List LV} {vs:List aj} {ys:List LV} {us:List aj},jP cx β xs vs->jP cx β ys us->jP cx β (xs++ys) (vs++us)
 |[],[],_,_,_,k=>k
 |_::_,_::_,_,_,h,k=>⟨h.1,jP.append h.2 k⟩
 |[],_::_,_,_,h,_=>h.elim
 |_::_,[],_,_,h,_=>h.elim
theorem jP.one{cx:Cx}{β:List En}:∀{xs:List LV} {vs:List aj},jP cx β xs vs->∀v∈vs,v.oneCell'=ae
 |[],[],_,_,hm=>by cases hm
 |_::_,_::_,h,v,hm=>by
  rcases bF.1 hm with rfl|hm
  ·exact h.1.1
  ·exact jP.one h.2 v hm
 |[],_::_,h,_,_=>h.elim
 |_::_,[],h,_,_=>h.elim
theorem jP.consts{cx:Cx}{β:List En}:∀{vs:List aj},(∀v∈vs,v.oneCell'=ae)->jP cx β (vs.map LV.v) vs
 |[],_=>trivial
 |v::vs,h=>⟨⟨h v (by simp),rfl⟩,jP.consts λ u hu=>h u (by simp[hu])⟩
theorem HOk.keep{w w':ai}{h:HB}{e:En}(ho:HOk cx β w h e)(hx:Ext β cT)(hb:∀b,ow h e=ab b->w'.heap[b]?=w.heap[b]?):HOk cx cT w' h e:=by
 cases h with
 |b cs T=>cases e with
  |b n=>
   obtain⟨h1,us,h2,h3⟩:=ho
   exact⟨h1,us,(hb n rfl).trans h2,h3.ext hx⟩
  |_=>exact ho
 |r eC E l=>cases e with
  |r v nh=>
   obtain⟨h1,h2,h3⟩:=ho
   refine⟨h1,⟨h2.1,h2.2.imp id λ⟨g,cap,cur,e1,e2,e3,e4⟩=>⟨g,cap,cur,e1,e2,?_,e4⟩⟩,h3⟩
   exact(hb g (by rw[e1];rfl)).trans e3
  |_=>exact ho
 |d=>cases e<;>exact ho
 |x Φ=>cases e with
  |b n=>
   obtain⟨h1,ob,h2,h3⟩:=ho
   exact⟨h1,ob,(hb n rfl).trans h2,h3⟩
  |_=>exact ho
theorem HOk.lt{cx:Cx}{β:List En}{w:ai}{h:HB}{e:En}(ho:HOk cx β w h e){b:Nat}(hb:ow h e=ab b):b<w.heap.size/\(cx.w0.heap.size<=b\/b∈cx.M):=by
 cases h with
 |b cs T=>cases e with
  |b n=>
   obtain⟨h1,us,h2,h3⟩:=ho
   simp only[ow,aF] at hb
   subst hb
   exact⟨(ah.1 h2).1,h1⟩
  |_=>simp[ow] at hb
 |r eC E l=>cases e with
  |r v nh=>
   have:=ho.2.1.lt b hb
   exact⟨this.2,.inl this.1⟩
  |_=>simp[ow] at hb
 |d=>simp[ow] at hb
 |x Φ=>cases e with
  |b n=>
   obtain⟨h1,ob,h2,h3⟩:=ho
   simp only[ow,aF] at hb
   subst hb
   exact⟨(ah.1 h2).1,h1⟩
  |_=>simp[ow] at hb
theorem mB{k b:Nat}(h:ownB hp β k=ab b):∃x e,hp[k]?=ab x/\β[k]?=ab e/\ow x e=ab b:=by
 unfold ownB at h
 split at h
 ·exact⟨_,_,‹_›,‹_›,h⟩
 ·cases h
theorem ownB_of{k:Nat}{x:HB}{e:En}(h1:hp[k]?=ab x)(h2:β[k]?=ab e):ownB hp β k=ow x e:=by
 unfold ownB;rw[h1,h2]
theorem Inv.lt{cx:Cx}{β:List En}{hp:Hp}{w:ai}(h:Inv cx β hp w){k b:Nat}(hb:ownB hp β k=ab b):b<w.heap.size/\(cx.w0.heap.size<=b\/b∈cx.M):=by
 obtain⟨x,e,h1,h2,h3⟩:=mB hb
 exact(h.OZ k x e h1 h2).lt h3
theorem Inv.upd{bG:Hp}{w w':ai}{k0:Nat}{h':HB}{e':En}(hI:Inv cx β hp w)(ht:wa (λ b=>ownB hp β k0=ab b) w w')
  (hk:∀k,k≠k0->bG[k]?=hp[k]?/\cT[k]?=β[k]?) (hh:bG[k0]?=ab h') (he:cT[k0]?=ab e') (hlen:cT.length=bG.length) (hx:Ext β cT) (fc:HOk cx cT w' h' e')
  (dY:∀b,ow h' e'=ab b->ownB hp β k0=ab b\/w.heap.size<=b):Inv cx cT bG w':=by
 have zuQ:∀k b,ownB bG cT k=ab b->ownB hp β k=ab b\/(k=k0/\w.heap.size<=b):=by
  intro k b hb
  by_cases h:k=k0
  ·subst h
   rw[ownB_of hh he] at hb
   exact(dY b hb).imp id λ h=>⟨rfl,h⟩
  ·left
   unfold ownB at hb ⊢
   rw[(hk k h).1,(hk k h).2] at hb
   exact hb
 refine⟨⟨ht.os.trans hI.kp.os,ht.tape.trans hI.kp.tape,ht.output.trans hI.kp.output,bD hI.kp.size ht.size,λ b hb hn=>?_,λ b hb=>ht.rows b (hI.kp.rows b hb)⟩,hlen,λ k h e h1 h2=>?_,λ i k b hi nZ=>?_⟩
 ·refine(ht.block b (aY hb hI.kp.size) λ e=>?_).trans (hI.kp.block b hb hn)
  rcases (hI.lt e).2 with h|h
  ·omega
  ·exact hn h
 ·by_cases h0:k=k0
  ·subst h0
   rw[hh] at h1
   rw[he] at h2
   obtain rfl:=fS h1
   obtain rfl:=fS h2
   exact fc
  ·rw[(hk k h0).1] at h1
   rw[(hk k h0).2] at h2
   have ho:=hI.OZ k h e h1 h2
   refine ho.keep hx λ b hb=>ht.block b (ho.lt hb).1 λ e'=>?_
   exact h0 (hI.dis k k0 b (by rw[ownB_of h1 h2];exact hb) e')
 ·rcases zuQ i b hi with h1|⟨rfl,h1⟩<;>rcases zuQ k b nZ with h2|⟨rfl,h2⟩
  ·exact hI.dis i k b h1 h2
  ·have:=(hI.lt h1).1;omega
  ·have:=(hI.lt h2).1;omega
  ·rfl
theorem Inv.stay{w w':ai}(hI:Inv cx β hp w)(ht:cE w.heap.size w w'):Inv cx β hp w':=by
 refine⟨⟨ht.os.trans hI.kp.os,ht.tape.trans hI.kp.tape,ht.output.trans hI.kp.output,bD hI.kp.size ht.size,λ b hb hn=>?_,λ b hb=>(wa.PS (S:=λ _=>False) ht).rows b (hI.kp.rows b hb)⟩,hI.len,λ k h e h1 h2=>?_,hI.dis⟩
 ·exact(ht.block b (aY hb hI.kp.size)).trans (hI.kp.block b hb hn)
 ·have ho:=hI.OZ k h e h1 h2
  exact ho.keep (Ext.refl _) λ b hb=>ht.block b (ho.lt hb).1
theorem EL.GW(l:EL):l.enc.length=l.len*l.sz:=by
 cases l with
 |ints l=>simp[EL.enc,EL.len,EL.sz]
 |bytes l=>simp[EL.enc,EL.len,EL.sz]
 |bK l=>
  simp only[EL.enc,EL.len,EL.sz]
  induction l with
  |nil=>rfl
  |cons a r ih=>simp[ih];omega
 |k3 l=>
  simp only[EL.enc,EL.len,EL.sz]
  induction l with
  |nil=>rfl
  |cons a r ih=>simp[ih];omega
theorem EL.one(l:EL):∀u∈l.enc,u.oneCell'=ae:=by
 intro u hu
 cases l with
 |ints l=>obtain⟨x,_,rfl⟩:=tc.1 hu;rfl
 |bytes l=>obtain⟨x,_,rfl⟩:=tc.1 hu;rfl
 |bK l=>obtain⟨x,_,h⟩:=List.mem_flatMap.1 hu;simp at h;rcases h with rfl|rfl<;>rfl
 |k3 l=>obtain⟨x,_,h⟩:=List.mem_flatMap.1 hu;simp at h;rcases h with rfl|rfl|rfl<;>rfl
theorem FZ.sl{w:ai}{v:aj}{l:EL}(h:FZ cx v l)(hI:Inv cx β hp w):Sl w l.sz v l.len l.enc:=by
 refine⟨h.1.1,?_⟩
 rcases h.1.2 with⟨h0,h1⟩|⟨g,off,cap,cur,T,h1,h2,h3,h4⟩
 ·obtain⟨a,cap,h2,h3,h4⟩:=h1
  exact .inl ⟨h0,a,cap,h2,h3,λ ad e=>hI.kp.rows _ (h4 ad e)⟩
 ·by_cases h0:l.len=0
  ·exact .inl ⟨h0,_,cap,by rw[h1,h0],λ e=>(by cases e),λ ad e=>(by cases e;exact hI.kp.rows _ ⟨cur,T.1,T.2,h3⟩)⟩
  ·refine .inr ⟨g,off,cap,cur,T,h1,h2,?_,h4⟩
   rw[hI.kp.block g (ah.1 h3).1 (h.2.2 h0 g (by rw[h1];rfl))]
   exact h3
end Ab
open Go.RowKit
namespace Ab
def Yl:ia->Bool
 |.struct _|.array _ _=>ae
 |_=>aa
def EK.zero:EK->aj
 |.ints=>.int .i64 0
 |.bK=>.agg #[.int .i64 0,.int .i64 0]
 |.bytes=>.int .u8 0
 |.k3=>.agg #[.int .i64 0,.int .i64 0,.int .i64 0]
def EK.sz:EK->Nat
 |.ints=>1
 |.bK=>2
 |.bytes=>1
 |.k3=>3
def EW:List (Option cZ)->List aj->List aj->Option Bool
 |[],[],[]=>ab ae
 |some _::ks,.int k x::xs,.int k' y::ys=>if k=k' then (EW ks xs ys).map λ b=>decide (x=y) && b else ak
 |none::ks,.bool x::xs,.bool y::ys=>(EW ks xs ys).map λ b=>(x == y) && b
 |_,_,_=>ak
def zvp:Option cZ->ia
 |some k=>.int k
 |none=>.bool
structure zqK(P:aG)(t:au)(ks:List (Option cZ)):Prop where
 under:P.underlying t=ab (.struct (P.fieldsOf t))
 held:P.stoodInHeld t=aa
 guard:P.eqGuardType P.depth t=aa
 fields:(P.fieldsOf t).toList.map (λ f=>(f.name != "_",f.offset,P.underlying f.type))=ks.zipIdx.map λ x=>(ae,x.2,ab (zvp x.1))
def zhi:ia->Bool
 |.int .i64=>ae
 |_=>aa
def KOk(P:aG)(t:au):TK->Prop
 |.leaf=>True
 |.bool=>P.underlying t=ab .bool
 |.int k=>P.underlying t=ab (.int k)
 |.struct fs=>(P.underlying t).bind (λ d=>match d with
   |.struct g=>ab (g.toList.map λ f=>(f.offset,(P.info? f.type).map (·.size),(P.underlying f.type).map Yl))
   |_=>ak)=ab (fs.map λ x=>(x.1,ab x.2.1,ab x.2.2))/\fs.all (λ x=>x.2.1 != 0)=ae
 |.arr n e jU zea=>P.underlying t=ab (.array n e)/\(P.info? e).map (·.size)=ab jU/\(P.underlying e).map Yl=ab zea
 |.osl e=>P.underlying t=ab (.slice e)
 |.str=>P.underlying t=ab .string
 |.ptr e=>P.underlying t=ab (.pointer e)
 |.chan=>(P.underlying t).bind (λ d=>match d with
   |.chan _ e=>(P.info? e).map λ f=>decide (f.bytes<=16)
   |_=>ak)=ab ae
 |.map=>(P.underlying t).bind (λ d=>match d with
   |.map k _=>(P.underlying k).map zhi
   |_=>ak)=ab ae
 |.slice e jU ek=>P.underlying t=ab (.slice e)/\(P.info? e).map (λ f=>(f.zero,f.size))=ab (ab ek.zero,jU)/\((P.info? e).map λ f=>decide (f.bytes<=32))=ab ae/\jU=ek.sz
def zro(P:aG)(t:au)(k:TK)(ms:List (String×ck×Bool)):Prop:=∀m∈ms,∀(n:Nat) (w:ai),
 (m.2.2=ae->(method (P.types.size+Made.depth) t (.pointer (ab ⟨n,0,ak⟩)) m.1).run P w=.ok (m.2.1,.pointer (ab ⟨n,0,ak⟩)) w)/\
 (m.2.2=aa->∀e,k=.ptr e->(method (P.types.size+Made.depth) t (.pointer (ab ⟨n,0,ak⟩)) m.1).run P w=(do let r <-et e ⟨n,0,ak⟩;pure (m.2.1,r):Sem (ck×aj)).run P w)
structure dJ(P:aG)(t:au)(i:TI):Prop where
 inf:(P.info? t).map (λ f=>(f.zero.map (λ z=>z.cells.toList),f.size,f.bytes))=ab (ab i.zero,i.sz,i.bytes)
 agg:(P.underlying t).map Yl=ab i.agg
 zl:i.zl=i.zero.map LV.v
 zD7:i.zero.length=i.sz
 one:i.zero.all (·.oneCell')=ae
 kind:KOk P t i.kind
 eqs:∀ks,i.eqs=ab ks->zqK P t ks
 zzA:zro P t i.kind i.ms
def jc(P:aG)(T:oU):Prop:=∀t i,tyL T t=ab i->dJ P t i
section
variable{P:aG}{cx:Cx}{β:List En}{w:ai}
variable{t:au}
theorem mN{n:Nat}(h:(P.info? t).map (·.size)=ab n)(w:ai):(jl t).run P w=.ok n w:=by
 obtain⟨f,hf,rfl⟩:=aN.1 h
 simp[jl,dQ,hf]
theorem E7{g:Bool}(h:(P.underlying t).map Yl=ab g)(w:ai):(qz t).run P w=.ok g w:=by
 obtain⟨d,hd,rfl⟩:=aN.1 h
 unfold qz
 rw[Sem.run_bind,bB hd]
 cases d<;>rfl
theorem dJ.size{t:au}{i:TI}(h:dJ P t i):(P.info? t).map (·.size)=ab i.sz:=by
 obtain⟨f,hf,e⟩:=aN.1 h.inf
 simp only[bz] at e
 rw[hf,cO,e.2.1]
variable{i:TI}
theorem dJ.PY(h:dJ P t i):∃z,z.cells.toList=i.zero/\∀w,(ee t).run P w=.ok z w:=by
 obtain⟨f,hf,e⟩:=aN.1 h.inf
 simp only[bz] at e
 obtain⟨z,hz,ez⟩:=aN.1 e.1
 exact⟨z,ez,λ w=>by simp[ee,dQ,hf,hz]⟩
theorem dJ.zhB(h:dJ P t i):jP cx β i.zl i.zero:=by
 rw[h.zl]
 exact jP.consts λ v hv=>ef.1 h.one v hv
theorem zbw{v:aj}{K:AV->Prop}(h:za4 v K):∃r,K r/\AC cx β r v:=by
 unfold za4 at h
 split at h<;>first|exact h.elim|exact⟨_,h,rfl,rfl⟩
theorem c7{fr:Fr}{a:Act}{x:bp}{K:AV->Prop}(hf:FR cx β fr a.tmps)(h:w9 fr x K):∃r,K r/\AC cx β r (a.eval x):=by
 cases x with
 |tmp t=>
  obtain⟨r,h1,h2⟩:=pW.1 h
  exact⟨r,h2,hf.2 t r h1⟩
 |const v=>exact zbw h
 |func f=>exact⟨_,h,rfl,rfl⟩
 |global g=>exact⟨_,h,rfl,rfl⟩
theorem rS{fr:Fr}{a:Act}(hf:FR cx β fr a.tmps):∀{xs:List bp} {K:List AV->Prop},Yo fr xs K->∃rs,K rs/\Uv cx β rs (xs.map a.eval)
 |[],K,h=>⟨[],h,trivial⟩
 |x::xs,K,h=>by
  obtain⟨r,h1,h2⟩:=c7 hf h
  obtain⟨rs,h3,h4⟩:=rS hf h1
  exact⟨r::rs,h3,h2,h4⟩
theorem tV{k:cZ}{n:Int}(h:rng k n):k.wrap n=n:=by
 cases k<;>first|exact IntWalk.i64_in n h|exact IntWalk.u8_in n h|exact h.elim
theorem OB(k:cZ)(n:Int):AC cx β (I k n) (.int k n):=⟨rfl,rfl⟩
theorem acB(b:Bool):AC cx β (B b) (.bool b):=⟨rfl,rfl⟩
variable{op:lu}
theorem ziE{k:cZ}{x y:Int}{K:AV->Prop}(hs:zmE op=aa)(h:zrc op k x y K)(t:au):∃r,K r/\∃v,AC cx β r v/\∀w,(binOp op t (.int k x) (.int k y)).run P w=.ok v w:=by
 cases op<;>simp only[zmE,Bool.true_eq_false] at hs<;>simp only[zrc,ba] at h
 case add=>exact⟨_,h.2,_,OB _ _,λ w=>by simp[binOp,pB,tV h.1]⟩
 case sub=>exact⟨_,h.2,_,OB _ _,λ w=>by simp[binOp,pB,tV h.1]⟩
 case mul=>exact⟨_,h.2,_,OB _ _,λ w=>by simp[binOp,pB,tV h.1]⟩
 case quo=>
  rw[Pr] at h
  by_cases hx:x<0
  ·obtain⟨⟨h1,h2⟩,h3⟩:=h.1 (by simpa using hx)
   have h0:¬y=0:=by omega
   have e:x.tdiv y=0-(0-x)/y:=by
    have:=Int.neg_tdiv (a:=-x) (b:=y)
    rw[Int.neg_neg] at this
    rw[this,u1 (by omega)]
    simp
   exact⟨_,h3,_,OB _ _,λ w=>by simp only[binOp,qI,h0,if_false,e,tV h2,ne_eq,not_true_eq_false];rfl⟩
  ·have h:=h.2 (by simpa using hx)
   have h0:¬y=0:=by omega
   exact⟨_,h.2,_,OB _ _,λ w=>by simp[binOp,qI,h0,u1 h.1.1,tV h.1.2.2]⟩
 case rem=>
  have h0:¬y=0:=by omega
  exact⟨_,h.2,_,OB _ _,λ w=>by simp[binOp,qI,h0,Int.tmod_eq_emod_of_nonneg h.1.1]⟩
 case and=>exact⟨_,h,_,OB _ _,λ w=>by simp[binOp,ub]⟩
 case or=>exact⟨_,h,_,OB _ _,λ w=>by simp[binOp,ub]⟩
 case xor=>exact⟨_,h,_,OB _ _,λ w=>by simp[binOp,ub]⟩
 case andNot=>exact⟨_,h,_,OB _ _,λ w=>by simp[binOp,ub]⟩
 case eql=>exact⟨_,h,_,acB _,λ w=>by simp[binOp,qH];rfl⟩
 case neq=>exact⟨_,h,_,acB _,λ w=>by simp[binOp,qH];rfl⟩
 case lss=>exact⟨_,h,_,acB _,λ w=>by simp[binOp,qH]⟩
 case leq=>exact⟨_,h,_,acB _,λ w=>by simp[binOp,qH]⟩
 case gtr=>exact⟨_,h,_,acB _,λ w=>by simp[binOp,qH]⟩
 case geq=>exact⟨_,h,_,acB _,λ w=>by simp[binOp,qH]⟩
 all_goals exact h.elim
theorem znB{k k':cZ}{x y:Int}{K:AV->Prop}(h:shK op k x y K)(t:au):∃r,K r/\∃v,AC cx β r v/\∀w,(binOp op t (.int k x) (.int k' y)).run P w=.ok v w:=by
 cases op<;>simp only[shK,ba] at h
 case shl=>
  have h0:¬y<0:=by omega
  exact⟨_,h.2,_,OB _ _,λ w=>by simp[binOp,xk,h0]⟩
 case shr=>
  have h0:¬y<0:=by omega
  exact⟨_,h.2,_,OB _ _,λ w=>by simp[binOp,xk,h0]⟩
 all_goals exact h.elim
theorem zio{k:Option cZ}{x y:LV}{u v:aj}{K:Bool->Prop}(h:eq1 k x y K)(hx:LC cx β x u)(hy:LC cx β y v):∃b,K b/\∀ks us vs c,EW ks us vs=ab c->EW (k::ks) (u::us) (v::vs)=ab (b && c):=by
 unfold eq1 at h
 split at h
 ·split at h
  ·obtain⟨_,rfl⟩:=hx
   split at h
   ·obtain⟨_,rfl⟩:=hy
    obtain⟨hk,h2⟩:=ba.1 h
    subst hk
    exact⟨_,h2,λ ks us vs c hc=>by simp[EW,hc]⟩
   ·exact h.elim
  ·exact h.elim
 ·split at h
  ·obtain⟨_,rfl⟩:=hx
   split at h
   ·obtain⟨_,rfl⟩:=hy
    exact⟨_,h,λ ks us vs c hc=>by simp[EW,hc]⟩
   ·exact h.elim
  ·exact h.elim
theorem JV:∀{ks:List (Option cZ)} {xs ys:List LV} {us vs:List aj} {K:Bool->Prop},Yn ks xs ys K->jP cx β xs us->jP cx β ys vs->∃b,K b/\EW ks us vs=ab b
 |[],[],[],[],[],_,h,_,_=>⟨ae,h,rfl⟩
 |_::_,_::_,_::_,_::_,_::_,_,h,hx,hy=>by
  obtain⟨b,h1,h2⟩:=zio h hx.1 hy.1
  obtain⟨c,h3,h4⟩:=JV h1 hx.2 hy.2
  exact⟨_,h3,h2 _ _ _ _ h4⟩
 |[],[],[],_::_,_,_,_,hx,_=>hx.elim
 |[],[],[],[],_::_,_,_,_,hy=>hy.elim
 |_::_,_::_,_::_,[],_,_,_,hx,_=>hx.elim
 |_::_,_::_,_::_,_::_,[],_,_,_,hy=>hy.elim
 |[],[],_::_,_,_,_,h,_,_=>by simp[Yn] at h
 |[],_::_,_,_,_,_,h,_,_=>by simp[Yn] at h
 |_::_,[],_,_,_,_,h,_,_=>by simp[Yn] at h
 |_::_,_::_,[],_,_,_,h,_,_=>by simp[Yn] at h
theorem Eo(d:Nat)(us vs:Array aj):∀(ks:List (Option cZ)) (fs:List Field) (i:Nat) (b:Bool),fs.map (λ f=>(f.name != "_",f.offset,P.underlying f.type))=(ks.zipIdx i).map (λ x=>(ae,x.2,ab (zvp x.1)))->
  EW ks (us.toList.drop i) (vs.toList.drop i)=ab b->∀w,(Op.eqFields (d+1) us vs fs).run P w=.ok b w
 |[],[],i,b,_,h,w=>by
  cases hu:us.toList.drop i<;>cases hv:vs.toList.drop i<;>rw[hu,hv] at h<;>simp[EW] at h
  subst h
  rfl
 |k::ks,f::fs,i,b,hf,h,w=>by
  simp only[dC,xS,iw,bz] at hf
  obtain⟨⟨f1,f2,f3⟩,f4⟩:=hf
  have zo2:∀(zs:Array aj) (z:aj) (rest:List aj),zs.toList.drop i=z::rest->(part f.type zs f.offset).run P w=.ok z w/\zs.toList.drop (i+1)=rest:=by
   intro zs z rest hz
   have h0:zs[i]?=ab z:=by
    have:=congrArg (λ l=>l[0]?) hz
    simpa using this
   refine⟨?_,by have:=congrArg List.tail hz;simpa using this⟩
   have hag:(qz f.type).run P w=.ok aa w:=by
    unfold qz
    rw[Sem.run_bind,bB f3]
    cases k<;>rfl
   unfold part
   rw[Sem.run_bind,hag,bc,f2,h0]
   rfl
  cases hu:us.toList.drop i with
  |nil=>rw[hu] at h;cases k<;>simp[EW] at h
  |cons u SD=>
   cases hv:vs.toList.drop i with
   |nil=>rw[hu,hv] at h;cases k<;>cases u<;>simp[EW] at h
   |cons v vs'=>
    obtain⟨p1,p2⟩:=zo2 us u SD hu
    obtain⟨p3,p4⟩:=zo2 vs v vs' hv
    rw[hu,hv] at h
    have fin:∀(r c:Bool),(zFO (d+1) f.type u v).run P w=.ok r w->EW ks SD vs'=ab c->b=(r && c)->(Op.eqFields (d+1) us vs (f::fs)).run P w=.ok b w:=by
     intro r c h1 h2 h3
     have ih:=Eo d us vs ks fs (i+1) c f4 (by rw[p2,p4];exact h2) w
     unfold Op.eqFields
     rw[if_pos (by simpa using f1),Sem.run_bind,p1,bc,Sem.run_bind,p3,bc,Sem.run_bind,h1,bc,h3]
     cases r
     ·rfl
     ·simpa using ih
    cases k with
    |some k0=>
     cases u<;>cases v<;>simp only[EW,reduceCtorEq] at h
     split at h
     ·rename_i hk
      subst hk
      obtain⟨c,h1,h2⟩:=aN.1 h
      exact fin _ c (run_equalIn_int w d f.type _ k0 _ _ f3) h1 h2.symm
     ·cases h
    |none=>
     cases u<;>cases v<;>simp only[EW,reduceCtorEq] at h
     obtain⟨c,h1,h2⟩:=aN.1 h
     exact fin _ c (run_equalIn_bool' w d f.type _ _ f3) h1 h2.symm
 |[],_::_,_,_,hf,_,_=>by simp at hf
 |_::_,[],_,_,hf,_,_=>by simp at hf
theorem zqK.run{t:au}{ks:List (Option cZ)}(h:zqK P t ks){us vs:Array aj}{b:Bool}(hc:EW ks us.toList vs.toList=ab b)(w:ai):(zFO 10000 t (.agg us) (.agg vs)).run P w=.ok b w:=by
 rw[run_equalIn_struct w 9999 t us vs h.under h.held]
 exact Eo 9998 us vs ks _ 0 b h.fields (by simpa using hc) w
variable{y:bp}
theorem U9{x:bp}{k k':cZ}{a b:Int}(w:ai):(jG op t x y (.int k a) (.int k' b)).run P w=.ok () w:=by
 unfold jG;dsimp only;split<;>rfl
theorem zbG{x:bp}{a b:Bool}(w:ai):(jG op t x y (.bool a) (.bool b)).run P w=.ok () w:=by
 unfold jG;dsimp only;split<;>rfl
theorem XD{x:bp}{a b:ByteArray}(w:ai):(jG op t x y (.string a) (.string b)).run P w=.ok () w:=by
 unfold jG;dsimp only;split<;>rfl
theorem Va{x:bp}{a b:Option cr}(w:ai):(jG op t x y (.pointer a) (.pointer b)).run P w=.ok () w:=by
 unfold jG;dsimp only;split<;>rfl
theorem eq_nil{e:au}(hk:P.underlying t=ab (.pointer e))(p:Option cr)(w:ai):(rQ t (.pointer p) (.pointer ak)).run P w=.ok p.isNone w:=by
 show (zFO (9999+1) t (.pointer p) (.pointer ak)).run P w=_
 rw[zFO,Sem.run_bind,bB hk]
 cases p<;>rfl
theorem zig{T: oU}(hT : jc P T){a b: AV}{va vb: aj}{K: AV → Prop}(h : zqQ T op t a b K)(ha : AC cx β a va)(hb : AC cx β b vb)(x y : bp) :
    ∃ r, K r ∧ ∃ v, AC cx β r v ∧ ∀ w, (do jG op t x y va vb; binOp op t va vb : Sem aj).run P w = .ok v w := by
  unfold zqQ at h
  split at h
  · rename_i k x1
    obtain ⟨_, rfl⟩ := ha
    split at h
    · rename_i k' y1
      obtain ⟨_, rfl⟩ := hb
      cases hs : zmE op with
      | true =>
        simp only [hs] at h
        obtain ⟨r, h1, v, h2, h3⟩ := znB (P := P) (cx := cx) (β := β) (k' := k') h t
        exact ⟨r, h1, v, h2, fun w => by rw [Sem.run_bind, U9]; exact h3 w⟩
      | false =>
        simp only [hs, ba] at h
        obtain ⟨rfl, h⟩ := h
        obtain ⟨r, h1, v, h2, h3⟩ := ziE (P := P) (cx := cx) (β := β) hs h t
        exact ⟨r, h1, v, h2, fun w => by rw [Sem.run_bind, U9]; exact h3 w⟩
    · exact h.elim
  · rename_i x1
    obtain ⟨_, rfl⟩ := ha
    split at h
    · rename_i y1
      obtain ⟨_, rfl⟩ := hb
      obtain ⟨i, hi, h⟩ := eU.1 h
      have hk := (hT t i hi).kind
      split at h
      · rename_i YH
        rw [YH] at hk
        have he : ∀ w, (rQ t (.bool x1) (.bool y1)).run P w = .ok (x1 == y1) w := fun w => by
          show (zFO (9999 + 1) t (.bool x1) (.bool y1)).run P w = _
          rw [zFO, Sem.run_bind, bB hk]
          rfl
        cases op <;> first | exact h.elim | exact ⟨_, h, _, acB _, fun w => by rw [Sem.run_bind, zbG]; simp [binOp, he]⟩
      · exact h.elim
    · exact h.elim
  · rename_i xs
    obtain ⟨us, rfl, hu⟩ := ha
    split at h
    · rename_i ys
      obtain ⟨vs, rfl, hv⟩ := hb
      obtain ⟨i, hi, h⟩ := eU.1 h
      have hk := (hT t i hi).eqs
      cases he : i.eqs with
      | none => simp only [he] at h
      | some ks =>
        simp only [he] at h
        have hq := hk ks he
        cases op <;> first | exact h.elim | skip
        case eql =>
          obtain ⟨c, h1, h2⟩ := JV h hu hv
          refine ⟨_, h1, _, acB _, fun w => ?_⟩
          rw [Sem.run_bind, run_eqGuard_agg w _ t x y us vs hq.guard, bc, run_eql_struct, hq.run h2]
          rfl
        case neq =>
          obtain ⟨c, h1, h2⟩ := JV h hu hv
          refine ⟨_, h1, _, acB _, fun w => ?_⟩
          rw [Sem.run_bind, run_eqGuard_agg w _ t x y us vs hq.guard, bc, run_neq_struct, hq.run h2]
          rfl
    · exact h.elim
  · rename_i x1
    obtain ⟨_, rfl⟩ := ha
    split at h
    · rename_i y1
      obtain ⟨_, rfl⟩ := hb
      cases op <;> first | exact h.elim | exact ⟨_, h, _, acB _, fun w => by rw [Sem.run_bind, XD]; simp [binOp, Bg]⟩
    · exact h.elim
  · rename_i p
    obtain ⟨_, rfl⟩ := ha
    split at h
    · obtain ⟨_, rfl⟩ := hb
      obtain ⟨i, hi, h⟩ := eU.1 h
      have hk := (hT t i hi).kind
      split at h
      · rename_i YH
        rw [YH] at hk
        cases op <;> first | exact h.elim | exact ⟨_, h, _, acB _, fun w => by rw [Sem.run_bind, Va]; simp [binOp, eq_nil hk]⟩
      · exact h.elim
    · exact h.elim
  · obtain ⟨_, n, _, rfl⟩ := ha
    split at h
    · obtain ⟨_, rfl⟩ := hb
      obtain ⟨i, hi, h⟩ := eU.1 h
      have hk := (hT t i hi).kind
      split at h
      · rename_i YH
        rw [YH] at hk
        cases op <;> first | exact h.elim | exact ⟨_, h, _, acB _, fun w => by rw [Sem.run_bind, Va]; simp [binOp, eq_nil hk]⟩
      · exact h.elim
    · exact h.elim
  · exact h.elim
theorem Y1(hT:dJ P t i){cs:List LV}{us:Array aj}{off b:Nat}{T':au}{fz:Nat×Nat}{K:AV->Prop}(hb:w.heap[b]?=ab (.cells us T' fz))(hcs:jP cx β cs us.toList)(h:zaK cs off i.sz i.agg K):
  ∃r,K r/\∃v,AC cx β r v/\∀w':ai,w'.heap[b]?=w.heap[b]?->(et t ⟨b,off,ak⟩).run P w'=.ok v w':=by
 obtain⟨h1,h⟩:=tt.1 h
 obtain⟨h2,h⟩:=tC.1 h
 have hl:=(hcs.drop off).take i.sz
 have hlen:((us.toList.drop off).take i.sz).length=i.sz:=by
  have:=hl.length
  rw[<-this];simp only[dm] at h2 ⊢;omega
 have cell:∀w':ai,w'.heap[b]?=w.heap[b]?->∀j v,((us.toList.drop off).take i.sz)[j]?=ab v->w'.cell? ((⟨b,off,ak⟩:cr).add j)=ab v:=by
  intro w' hw j v hj
  have zqX:(⟨b,off,ak⟩:cr).add j=⟨b,off+j,ak⟩:=by unfold Addr.add;split<;>simp_all
  rw[zqX]
  unfold World.cell?
  simp only[hw,hb]
  rw[l7] at hj
  split at hj
  ·rw[kh] at hj
   simpa using hj
  ·cases hj
 cases hg:i.agg with
 |true=>
  simp only[hg] at h
  refine⟨_,h,.agg ((us.toList.drop off).take i.sz).toArray,⟨_,rfl,by simpa using hl⟩,λ w' hw=>?_⟩
  have hL:=uW (P:=P) w' ⟨b,off,ak⟩ _ (cell w' hw)
  rw[hlen] at hL
  simp[et,E7 (hg▸hT.agg),mN hT.size,hL]
 |false=>
  simp only[hg] at h
  split at h
  ·rename_i x hx
   rw[hx] at hl
   cases hu:(us.toList.drop off).take i.sz with
   |nil=>rw[hu] at hl;exact hl.elim
   |cons v vs=>
    rw[hu] at hl
    refine⟨_,h,v,hl.1,λ w' hw=>?_⟩
    have:=cell w' hw 0 v (by rw[hu];rfl)
    simp only[Addr.add,if_true] at this
    simp[et,E7 (hg▸hT.agg),load,Sem.run,this]
  ·exact h.elim
end
end Ab
open Go.RowKit
namespace Ab
theorem jx(g o j:Nat):(⟨g,o,ak⟩:cr).add j=⟨g,o+j,ak⟩:=by unfold Addr.add;split<;>simp_all
theorem EL.PO(l:EL)(n:Nat):(l.take n).len=min n l.len:=by cases l<;>simp[EL.take,EL.len]
theorem EL.PN(l:EL)(n:Nat):(l.drop n).len=l.len-n:=by cases l<;>simp[EL.drop,EL.len]
theorem EL.zdO(l:EL)(n:Nat):(l.take n).sz=l.sz:=by cases l<;>rfl
theorem EL.OX(l:EL)(n:Nat):(l.drop n).sz=l.sz:=by cases l<;>rfl
theorem zeG(l:List (Int×Int))(n:Nat):EL.enc (.bK (l.take n))=(EL.enc (.bK l)).take (n*2):=by
 induction l generalizing n with
 |nil=>simp[EL.enc]
 |cons a r ih=>
  cases n with
  |zero=>simp[EL.enc]
  |succ n=>
   have:=ih n
   simp only[EL.enc] at this ⊢
   simp only[jE,dc,jI]
   rw[show n*2+2=(n*2+1)+1 from rfl]
   simp[this]
theorem zeF(l:List (Int×Int))(n:Nat):EL.enc (.bK (l.drop n))=(EL.enc (.bK l)).drop (n*2):=by
 induction l generalizing n with
 |nil=>simp[EL.enc]
 |cons a r ih=>
  cases n with
  |zero=>simp[EL.enc]
  |succ n=>
   have:=ih n
   simp only[EL.enc] at this ⊢
   simp only[sU,dc,jI]
   rw[show n*2+2=(n*2+1)+1 from rfl]
   simp[this]
theorem zna(l:List (Int×Int×Int))(n:Nat):EL.enc (.k3 (l.take n))=(EL.enc (.k3 l)).take (n*3):=by
 induction l generalizing n with
 |nil=>simp[EL.enc]
 |cons a r ih=>
  cases n with
  |zero=>simp[EL.enc]
  |succ n=>
   have:=ih n
   simp only[EL.enc] at this ⊢
   simp only[jE,dc,jI]
   rw[show n*3+3=(n*3+1+1)+1 from rfl]
   simp[this]
theorem zm9(l:List (Int×Int×Int))(n:Nat):EL.enc (.k3 (l.drop n))=(EL.enc (.k3 l)).drop (n*3):=by
 induction l generalizing n with
 |nil=>simp[EL.enc]
 |cons a r ih=>
  cases n with
  |zero=>simp[EL.enc]
  |succ n=>
   have:=ih n
   simp only[EL.enc] at this ⊢
   simp only[sU,dc,jI]
   rw[show n*3+3=(n*3+1+1)+1 from rfl]
   simp[this]
theorem EL.Y6(l:EL)(n:Nat):(l.take n).enc=l.enc.take (n*l.sz):=by
 cases l with
 |ints l=>simp[EL.take,EL.enc,EL.sz]
 |bytes l=>simp[EL.take,EL.enc,EL.sz]
 |bK l=>exact zeG l n
 |k3 l=>exact zna l n
theorem EL.Y5(l:EL)(n:Nat):(l.drop n).enc=l.enc.drop (n*l.sz):=by
 cases l with
 |ints l=>simp[EL.drop,EL.enc,EL.sz]
 |bytes l=>simp[EL.drop,EL.enc,EL.sz]
 |bK l=>exact zeF l n
 |k3 l=>exact zm9 l n
section
variable{P:aG}{cx:Cx}{β:List En}{hp:Hp}{w:ai}
theorem zbp(a:cr)(k:Nat):(a.add k).block=a.block:=by unfold Addr.add;split<;>rfl
variable{c i:Nat}
theorem xL{k:Nat}{a:Option cr}{ad:cr}(h:(if c=i then a else a.map (·.add k))=ab ad):∃ad0,a=ab ad0/\ad0.block=ad.block:=by
 split at h
 ·exact⟨ad,h,rfl⟩
 ·obtain⟨ad0,h1,rfl⟩:=aN.1 h
  exact⟨ad0,h1,(zbp _ _).symm⟩
theorem Vv{l:List aj}{m k:Nat}(h:(l.take m).all tJ=ae)(hk:k<=m):(l.take k).all tJ=ae:=by
 rw[ef] at h ⊢
 intro x hx
 exact h x (List.take_subset_take_left l hk hx)
theorem EL.tP(l:EL):l.enc.all tJ=ae:=by
 cases l<;>simp[EL.enc,Ht,List.all_flatMap,vT,tJ]
variable{h:Nat}
theorem Sl.sub{sz n:Nat}{a:Option cr}{xs:List aj}(hs:Sl w sz (.slice a n c) n xs)(h1:i<=h)(h2:h<=n):
  n<=c/\Sl w sz (.slice (if c=i then a else a.map (·.add (i*sz))) (h-i) (c-i)) (h-i) ((xs.drop (i*sz)).take ((h-i)*sz)):=by
 have hlen:((xs.drop (i*sz)).take ((h-i)*sz)).length=(h-i)*sz:=by
  rw[dm,iF,hs.1,<-rX]
  exact eP (br _ (by omega))
 rcases hs.2 with⟨rfl,a',cap,he,hn,Aq⟩|⟨g,off,cap,cur,T,he,h3,h4,h5,h6⟩
 ·simp only[b9,true_and] at he
  obtain⟨rfl,rfl⟩:=he
  refine⟨bw _,hlen,.inl ⟨by omega,_,_,by rw[show h-i=0 by omega],λ e=>?_,λ ad e=>?_⟩⟩
  ·split at e
   ·omega
   ·have:=hn (by cases a<;>simp_all)
    omega
  ·obtain⟨ad0,e1,e2⟩:=xL e
   rw[<-e2]
   exact Aq ad0 e1
 ·simp only[b9,true_and] at he
  obtain⟨rfl,rfl⟩:=he
  refine⟨h3,hlen,?_⟩
  by_cases h0:h-i=0
  ·refine .inl ⟨h0,_,_,by rw[h0],λ e=>?_,λ ad e=>?_⟩
   ·split at e<;>cases e
   ·obtain⟨ad0,e1,e2⟩:=xL e
    cases e1
    rw[<-e2]
    exact⟨cur,T.1,T.2,h4⟩
  ·have hc:¬c=i:=by omega
   refine .inr ⟨g,off+i*sz,c-i,cur,T,by simp[hc,jx],by omega,h4,?_,?_⟩
   ·have e1:i*sz+(h-i)*sz=h*sz:=by rw[<-gj];congr 1;omega
    have e2:h*sz<=n*sz:=br _ h2
    exact⟨by have:=h5.1;omega,Vv h5.2 (by omega)⟩
   ·rw[<-h6,uw,Bz,lD]
    congr 1
    rw[<-rX]
    exact(eP (br _ (by omega))).symm
theorem FZ.sub{n i h c:Nat}{a:Option cr}{l:EL}(hf:FZ cx (.slice a n c) l)(hn:n=l.len)(h1:i<=h)(h2:h<=n):
  FZ cx (.slice (if c=i then a else a.map (·.add (i*l.sz))) (h-i) (c-i)) ((l.drop i).take (h-i)):=by
 subst hn
 have hl:((l.drop i).take (h-i)).len=h-i:=by rw[EL.PO,EL.PN];omega
 have hsz:((l.drop i).take (h-i)).sz=l.sz:=by rw[EL.zdO,EL.OX]
 refine⟨?_,by rw[hl];have:=hf.2.1;omega,λ h0 b hb=>?_⟩
 ·rw[hl,hsz,EL.Y6,EL.OX,EL.Y5]
  exact(Sl.sub hf.1 h1 h2).2
 ·rw[hl] at h0
  refine hf.2.2 (by omega) b ?_
  rw[<-hb]
  split
  ·cases a<;>rfl
  ·cases a with
   |none=>rfl
   |some x=>simp[Value.ownBlock,Addr.UW]
variable{E:au}
theorem tK.whole{sz n base:Nat}{a:Option cr}{xs:List aj}(ho:w.ownsRow base E sz (.slice a n c) n xs)(h1:i<=h)(h2:h<=n):
  tK (.slice a n c) sz i (h-i) (.slice (if c=i then a else a.map (·.add (i*sz))) (h-i) (c-i)):=by
 rcases ho.2 with⟨he,rfl⟩|⟨g,cap,cur,he,hb,hg,h3,h4,h5,h6⟩
 ·simp only[b9,true_and] at he
  obtain⟨rfl,rfl⟩:=he
  exact⟨_,_,rfl,⟨λ _=>(by omega),λ ad e=>(by obtain⟨_,e1,_⟩:=xL e;cases e1)⟩,λ h=>by omega⟩
 ·simp only[b9,true_and] at he
  obtain⟨rfl,rfl⟩:=he
  refine⟨_,_,rfl,⟨λ e=>?_,λ ad e=>?_⟩,λ h0=>⟨g,n,c,rfl,?_,by omega,by omega⟩⟩
  ·split at e<;>cases e
  ·obtain⟨ad0,e1,e2⟩:=xL e
   cases e1
   rw[<-e2]
   rfl
  ·have hc:¬c=i:=by omega
   simp[hc,jx]
variable{v1:aj}
theorem tK.sub{sz n i0:Nat}{a:Option cr}(hp:tK v1 sz i0 n (.slice a n c))(h1:i<=h)(h2:h<=n):
  tK v1 sz (i0+i) (h-i) (.slice (if c=i then a else a.map (·.add (i*sz))) (h-i) (c-i)):=by
 obtain⟨a',c',he,hn,V4⟩:=hp
 simp only[b9,true_and] at he
 obtain⟨rfl,rfl⟩:=he
 refine⟨_,_,rfl,⟨λ e=>?_,λ ad e=>?_⟩,λ h0=>?_⟩
 ·split at e
  ·omega
  ·have:=hn.1 (by cases a<;>simp_all)
   omega
 ·obtain⟨ad0,e1,e2⟩:=xL e
  rw[<-e2]
  exact hn.2 ad0 e1
 ·obtain⟨g,n1,c1,rfl,rfl,h3,h4⟩:=V4 (by omega)
  have hc:¬c=i:=by omega
  exact⟨g,n1,c1,rfl,by simp[hc,jx,gj],by omega,by omega⟩
theorem tK.sl{v:aj}{sz n n1 base:Nat}{xs:List aj}(hp:tK v1 sz i n v)(ho:w.ownsRow base E sz v1 n1 xs)(hle:i+n<=n1)(hx:xs.all tJ=ae):Sl w sz v n ((xs.drop (i*sz)).take (n*sz)):=by
 obtain⟨a,c,rfl,hn,V4⟩:=hp
 have hlen:((xs.drop (i*sz)).take (n*sz)).length=n*sz:=by
  rw[dm,iF,ho.1,<-rX]
  exact eP (br _ (by omega))
 refine⟨hlen,?_⟩
 by_cases h0:n=0
 ·refine .inl ⟨h0,a,c,by rw[h0],hn.1,λ ad e=>?_⟩
  have hb:=hn.2 ad e
  rcases ho.2 with⟨he,_⟩|⟨g',cap,cur,he,_,hg,_⟩
  ·rw[he] at hb;cases hb
  ·rw[he] at hb
   cases hb
   exact⟨cur,E,(0,0),hg⟩
 ·obtain⟨g,n2,c1,rfl,rfl,h3,h4⟩:=V4 (by omega)
  rcases ho.2 with⟨he,_⟩|⟨g',cap,cur,he,hb,hg,h5,h6,h7,h8⟩
  ·simp at he
  ·simp only[b9,aF,Addr.mk.injEq,and_true] at he
   obtain⟨rfl,rfl,rfl⟩:=he
   refine .inr ⟨g,i*sz,c,cur,(E,(0,0)),rfl,h3,hg,?_,?_⟩
   ·have e1:i*sz+n*sz<=n2*sz:=by rw[<-gj];exact br _ (by omega)
    have e2:n2*sz<=c1*sz:=br _ (by omega)
    exact⟨by omega,Vv (by rw[h8];exact hx) e1⟩
   ·rw[<-h8,uw,Bz,<-rX]
    congr 1
    exact(eP (br _ (by omega))).symm
variable{eC:Nat}
theorem eV{k:Nat}{K:au->EL->Prop}(h:xg hp k eC K):∃E l,hp[k]?=ab (.r eC E l)/\K E l:=by
 obtain⟨x,h1,h⟩:=iS.1 h
 split at h
 ·rename_i nh E l
  cases hb:cQ eC nh with
  |true=>
   simp only[hb] at h
   have:eC=nh:=bf hb
   subst this
   exact⟨E,l,h1,h⟩
  |false=>simp only[hb] at h
 ·exact h.elim
theorem lq(hI:Inv cx β hp w){k:Nat}{l:EL}(h:hp[k]?=ab (.r eC E l)):∃v,β[k]?=ab (.r v eC)/\w.ownsRow cx.w0.heap.size E l.sz v l.len l.enc/\l.len<=pM:=by
 have cj:k < β.length:=by rw[hI.len];exact(aO.1 h).1
 have he:β[k]?=ab β[k]:=aW cj
 have ho:=hI.OZ k _ _ h he
 cases hx:β[k] with
 |r v nh=>
  rw[hx] at ho he
  obtain⟨rfl,h2,h3⟩:=ho
  exact⟨v,he,h2,h3⟩
 |_=>rw[hx] at ho;exact ho.elim
theorem LO{k:Nat}{v:aj}(h:LC cx β (.s k eC) v)(h1:β[k]?=ab (.r v1 eC)):v=v1:=by
 obtain⟨_,v2,Au,h2,h3,h4⟩:=h
 rw[h1] at h2
 simp only[aF,En.r.injEq] at h2
 obtain⟨rfl,rfl⟩:=h2
 exact h4 rfl
theorem YR{k sz n:Nat}{v:aj}(h:LC cx β (.w k eC sz i n) v)(h1:β[k]?=ab (.r v1 eC)):tK v1 sz i n v:=by
 obtain⟨_,v2,Au,h2,h3,h4⟩:=h
 rw[h1] at h2
 simp only[aF,En.r.injEq] at h2
 obtain⟨rfl,rfl⟩:=h2
 exact h4 rfl
theorem xG{base n sz:Nat}{v:aj}{xs:List aj}(h:w.ownsRow base E sz v n xs):∃a c,v=.slice a n c:=by
 rcases h.2 with⟨rfl,rfl⟩|⟨g,cap,cur,rfl,_⟩
 ·exact⟨_,_,rfl⟩
 ·exact⟨_,_,rfl⟩
theorem zg(hI:Inv cx β hp w){a:AV}{v:aj}{K:Nat->Prop}(ha:AC cx β a v)(h:JJ hp a K):∃n,K n/\∃ad c,v=.slice ad n c:=by
 unfold JJ at h
 split at h
 ·obtain⟨a,c,he,_⟩:=ha.2.1.form
  exact⟨_,h,a,c,he⟩
 ·obtain⟨a,c,he,_⟩:=ha.2.2.1.form
  exact⟨_,h,a,c,he⟩
 ·obtain⟨E,l,h1,h⟩:=eV h
  obtain⟨v1,h2,h3,_⟩:=lq hI h1
  rw[LO (cx:=cx) ha h2]
  exact⟨_,h,xG h3⟩
 ·obtain⟨E,l,h1,h⟩:=eV h
  obtain⟨v1,h2,h3,_⟩:=lq hI h1
  obtain⟨a,c,rfl,_⟩:=YR (cx:=cx) ha h2
  exact⟨_,h,_,_,rfl⟩
 ·obtain⟨_,rfl⟩:=ha
  exact⟨_,h,_,_,rfl⟩
 ·exact h.elim
theorem Vl(hI:Inv cx β hp w){ek:EK}{a:AV}{v:aj}{K:EL->Prop}(ha:AC cx β a v)(h:zc6 hp ek a K):∃l,K l/\Sl w l.sz v l.len l.enc/\l.len<=pM:=by
 unfold zc6 at h
 split at h
 ·exact⟨_,h,ha.2.sl hI,ha.2.2.1⟩
 ·obtain⟨E,l,h1,h⟩:=eV h
  obtain⟨v1,h2,h3,h4⟩:=lq hI h1
  rw[LO (cx:=cx) ha h2]
  exact⟨_,h,oZ h3 (EL.tP _),h4⟩
 ·obtain⟨E,l,h1,h⟩:=eV h
  obtain⟨v1,h2,h3,h4⟩:=lq hI h1
  obtain⟨hb,h⟩:=ba.1 h
  obtain⟨hle,h⟩:=ba.1 h
  have hsz:=bf hb
  have hp:=YR (cx:=cx) ha h2
  rw[hsz] at hp
  have hl:=tK.sl hp h3 hle (EL.tP _)
  refine⟨_,h,?_,?_⟩
  ·rw[EL.zdO,EL.OX,EL.PO,EL.PN,EL.Y6,EL.OX,EL.Y5,eP (by omega)]
   exact hl
  ·rw[EL.PO,EL.PN];omega
 ·obtain⟨_,rfl⟩:=ha
  refine⟨_,h,?_⟩
  cases ek<;>exact⟨⟨rfl,.inl ⟨rfl,ak,0,rfl,λ _=>rfl,λ ad e=>(by cases e)⟩⟩,bw _⟩
 ·exact h.elim
def zqL(a:Act)(x:Option bp)(d n:Int):Prop:=match x with
 |none=>n=d
 |some y=>∃k,a.eval y=.int k n
theorem Zu{fr:Fr}{a:Act}(hf:FR cx β fr a.tmps){x:Option bp}{d:Int}{K:Int->Prop}(h:zrg fr x d K):∃n,K n/\zqL a x d n:=by
 cases x with
 |none=>exact⟨_,h,rfl⟩
 |some y=>
  obtain⟨r,h1,h2⟩:=c7 hf h
  split at h1
  ·exact⟨_,h1,_,h2.2⟩
  ·exact h1.elim
variable{t:au}{jU:Nat}
theorem J9{e:au}{n:Nat}{ad:Option cr}(ht:P.underlying t=ab (.slice e))(hs:(P.info? e).map (·.size)=ab jU)(hc:n<=c)
  {a:Act} {lo hi:Option bp} {i h:Int} (hi0:zqL a lo 0 i) (hh0:zqL a hi n h)
  (h1:0<=i) (h2:i<=h) (h3:h<=n) (w:ai):
  (iQ t (.slice ad n c) (lo.map a.eval) (hi.map a.eval) ak).run P w=.ok (.slice (if c=i.toNat then ad else ad.map (·.add (i.toNat*jU))) (h.toNat-i.toNat) (c-i.toNat)) w:=by
 have hh:h<=(c:Int):=by omega
 cases hi with
 |none=>
  have hh1:h=n:=hh0
  subst hh1
  cases lo with
  |none=>
   have hi1:i=0:=hi0
   subst hi1
   simp[iQ,nI,fy,bB ht,mN hs]
  |some y=>
   obtain⟨k,hk⟩:=hi0
   simp[iQ,nI,fy,bB ht,hk,jQ,nO,h1,h2,mN hs]
 |some z=>
  obtain⟨k',nZ⟩:=hh0
  have h0:0<=h:=by omega
  obtain⟨m,rfl⟩:=Int.eq_ofNat_of_zero_le h0
  have hmc:m<=c:=by omega
  cases lo with
  |none=>
   have hi1:i=0:=hi0
   subst hi1
   simp[iQ,nI,fy,bB ht,nZ,jQ,nO,hmc,mN hs]
  |some y=>
   obtain⟨k,hk⟩:=hi0
   simp[iQ,nI,fy,bB ht,nZ,hk,jQ,nO,hmc,mN hs,h1,h2]
theorem kN{n m sz:Nat}{ad:Option cr}{xs:List aj}(h:Sl w sz (.slice ad n c) m xs):n=m:=by
 obtain⟨a',c',he,_⟩:=h.form
 simp only[b9] at he
 exact he.2.1
theorem zij(hI:Inv cx β hp w){fr:Fr}{a:Act}(hf:FR cx β fr a.tmps){e:au}(ht:P.underlying t=ab (.slice e))(hs:(P.info? e).map (·.size)=ab jU){x:AV}{v:aj}(hx:AC cx β x v){lo hi:Option bp}{K:AV->Prop}(h:zut jU x hp fr lo hi K):
  ∃r,K r/\∃u,AC cx β r u/\∀w,(iQ t v (lo.map a.eval) (hi.map a.eval) ak).run P w=.ok u w:=by
 obtain⟨n,g1,ad,c,rfl⟩:=zg hI hx h
 obtain⟨i,g2,hi0⟩:=Zu hf g1
 obtain⟨m,g3,hm0⟩:=Zu hf g2
 obtain⟨⟨h1,h2,h3⟩,g4⟩:=ba.1 g3
 clear h g1 g2 g3
 split at g4
 ·rename_i l
  obtain⟨hb,g5⟩:=ba.1 g4
  have hsz:jU=l.sz:=bf hb
  have hz:=hx.2
  have hn:n=l.len:=kN hz.1
  have hc:n<=c:=by
   have:=hz.1
   rw[<-hn] at this
   exact(Sl.sub this (aA _) (aA _)).1
  have hF:=FZ.sub hz hn (i:=i.toNat) (h:=m.toNat) (by omega) (by omega)
  rw[<-hsz] at hF
  exact⟨_,g5,_,⟨rfl,hF⟩,J9 ht hs hc hi0 hm0 h1 h2 h3⟩
 ·rename_i k eC
  obtain⟨E,l,hr,g5⟩:=eV g4
  obtain⟨hb,g6⟩:=ba.1 g5
  have hsz:jU=l.sz:=bf hb
  obtain⟨v1,r2,r3,r4⟩:=lq hI hr
  have hv:=LO (cx:=cx) hx r2
  subst hv
  have hn:n=l.len:=kN (oZ r3 (EL.tP _))
  rw[<-hn,<-hsz] at r3
  have hc:n<=c:=(Sl.sub (oZ r3 (EL.tP _)) (aA _) (aA _)).1
  exact⟨_,g6,_,⟨rfl,_,_,r2,aA _,λ _=>tK.whole r3 (by omega) (by omega)⟩,J9 ht hs hc hi0 hm0 h1 h2 h3⟩
 ·rename_i k eC sz i0 n0
  obtain⟨E,l,hr,g5⟩:=eV g4
  obtain⟨hb,g6⟩:=ba.1 g5
  have hsz:jU=sz:=bf hb
  subst hsz
  obtain⟨v1,r2,r3,r4⟩:=lq hI hr
  have hP:=YR (cx:=cx) hx r2
  have hP':=hP
  obtain⟨a',c',he,hn',V4⟩:=hP'
  simp only[b9] at he
  obtain⟨rfl,rfl,rfl⟩:=he
  have hc:n<=c:=by
   by_cases h0:0<n
   ·obtain⟨_,_,_,_,_,h4,_⟩:=V4 h0
    exact h4
   ·omega
  exact⟨_,g6,_,⟨rfl,_,_,r2,aA _,λ _=>hP.sub (by omega) (by omega)⟩,J9 ht hs hc hi0 hm0 h1 h2 h3⟩
 ·exact g4.elim
theorem zim(l:List Int)(i:Nat)(h:i<l.length):(EL.ints l).enc[i]?=ab (.int .i64 (l.getD i 0)):=by
 simp[EL.enc,h,my]
theorem zil(l:List (Int×Int)):∀(i:Nat),i<l.length->(EL.bK l).enc[i*2]?=ab (.int .i64 (l.getD i (0,0)).1)/\(EL.bK l).enc[i*2+1]?=ab (.int .i64 (l.getD i (0,0)).2):=by
 induction l with
 |nil=>intro i h;simp at h
 |cons a r ih=>
  intro i h
  cases i with
  |zero=>simp[EL.enc]
  |succ i=>
   have:=ih i (by simpa using h)
   simp only[EL.enc] at this ⊢
   simp only[dc,jI,Db]
   constructor
   ·rw[show i*2+2=(i*2+1)+1 from rfl];simpa using this.1
   ·rw[show i*2+2+1=(i*2+1+1)+1 from rfl];simpa using this.2
theorem zrF(l:List (Int×Int×Int)):∀(i:Nat),i<l.length->(EL.k3 l).enc[i*3]?=ab (.int .i64 (l.getD i (0,0,0)).1)/\(EL.k3 l).enc[i*3+1]?=ab (.int .i64 (l.getD i (0,0,0)).2.1)/\(EL.k3 l).enc[i*3+2]?=ab (.int .i64 (l.getD i (0,0,0)).2.2):=by
 induction l with
 |nil=>intro i h;simp at h
 |cons a r ih=>
  intro i h
  cases i with
  |zero=>simp[EL.enc]
  |succ i=>
   have:=ih i (by simpa using h)
   simp only[EL.enc] at this ⊢
   simp only[dc,jI,Db]
   refine⟨?_,?_,?_⟩
   ·rw[show i*3+3=(i*3+1+1)+1 from rfl];simpa using this.1
   ·rw[show i*3+3+1=(i*3+1+1+1)+1 from rfl];simpa using this.2.1
   ·rw[show i*3+3+2=(i*3+2+1+1)+1 from rfl];simpa using this.2.2
theorem zdk{ti:TI}(hT:dJ P t ti){l:EL}{off g o:Nat}{K:AV->Prop}(hcell:∀(j:Nat) u,l.enc[j]?=ab u->w.cell? ⟨g,o+j,ak⟩=ab u)(hi:i<l.len)(h:elK l i off ti.agg ti.sz K):
  ∃r,K r/\∃v,AC cx β r v/\∀w':ai,w'.heap[g]?=w.heap[g]?->(et t ⟨g,o+(i*l.sz+off),ak⟩).run P w'=.ok v w':=by
 have cell:∀w':ai,w'.heap[g]?=w.heap[g]?->∀(j:Nat) u,l.enc[j]?=ab u->w'.cell? ⟨g,o+j,ak⟩=ab u:=λ w' hw j u hu=>by
  rw[World.cell?_of_block (w:=w) (a:=⟨g,o+j,ak⟩) hw];exact hcell j u hu
 have one:∀(j:Nat) u,l.enc[j]?=ab u->ti.agg=aa->∀w':ai,w'.heap[g]?=w.heap[g]?->(et t ⟨g,o+j,ak⟩).run P w'=.ok u w':=λ j u hu hg w' hw=>by
  have:=cell w' hw j u hu
  simp[et,E7 (hg▸hT.agg),load,Sem.run,this]
 cases l with
 |ints l=>
  have h0:=zim l i hi
  cases hg:ti.agg with
  |true=>simp only[elK,hg] at h
  |false=>
   simp only[elK,hg] at h
   split at h
   ·exact⟨_,h,_,OB _ _,one _ _ (by simpa [EL.sz] using h0) hg⟩
   ·exact h.elim
 |bytes l=>
  have h0:(EL.bytes l).enc[i]?=ab (.int .u8 ((l.getD i 0).toNat:Int)):=by
   have X8:i<l.length:=hi
   simp[EL.enc,X8,my]
  cases hg:ti.agg with
  |true=>simp only[elK,hg] at h
  |false=>
   simp only[elK,hg] at h
   split at h
   ·exact⟨_,h,_,OB _ _,one _ _ (by simpa [EL.sz] using h0) hg⟩
   ·exact h.elim
 |bK l=>
  have h0:=zil l i hi
  cases hg:ti.agg with
  |true=>
   simp only[elK,hg] at h
   split at h
   ·split at h
    ·rename_i hsz
     refine⟨_,h,.agg #[.int .i64 (l.getD i (0,0)).1,.int .i64 (l.getD i (0,0)).2],⟨_,rfl,⟨rfl,rfl⟩,⟨rfl,rfl⟩,trivial⟩,λ w' hw=>?_⟩
     have hL:=uW (P:=P) w' ⟨g,o+(i*2+0),ak⟩ [.int .i64 (l.getD i (0,0)).1,.int .i64 (l.getD i (0,0)).2] (λ j v hj=>by
      rw[jx]
      match j with
      |0=>simp only[bE,aF] at hj;subst hj;exact cell w' hw (i*2) _ h0.1
      |1=>simp only[gq,bE,aF] at hj;subst hj;exact cell w' hw (i*2+1) _ h0.2
      |j+2=>simp at hj)
     have zaR:=hT.size
     rw[hsz] at zaR
     simp only[bP,zX,fQ] at hL
     simp[EL.sz,et,E7 (hg▸hT.agg),mN zaR] at hL ⊢
     simp[hL]
    ·exact h.elim
   ·exact h.elim
  |false=>
   simp only[elK,hg] at h
   split at h
   ·exact⟨_,h,_,OB _ _,one _ _ (by simpa [EL.sz] using h0.1) hg⟩
   ·exact⟨_,h,_,OB _ _,one _ _ (by simpa [EL.sz] using h0.2) hg⟩
   ·exact h.elim
 |k3 l=>
  have h0:=zrF l i hi
  cases hg:ti.agg with
  |true=>
   simp only[elK,hg] at h
   split at h
   ·split at h
    ·rename_i hsz
     refine⟨_,h,.agg #[.int .i64 (l.getD i (0,0,0)).1,.int .i64 (l.getD i (0,0,0)).2.1,.int .i64 (l.getD i (0,0,0)).2.2],⟨_,rfl,⟨rfl,rfl⟩,⟨rfl,rfl⟩,⟨rfl,rfl⟩,trivial⟩,λ w' hw=>?_⟩
     have hL:=uW (P:=P) w' ⟨g,o+(i*3+0),ak⟩ [.int .i64 (l.getD i (0,0,0)).1,.int .i64 (l.getD i (0,0,0)).2.1,.int .i64 (l.getD i (0,0,0)).2.2] (λ j v hj=>by
      rw[jx]
      match j with
      |0=>simp only[bE,aF] at hj;subst hj;exact cell w' hw (i*3) _ h0.1
      |1=>simp only[gq,bE,aF] at hj;subst hj;exact cell w' hw (i*3+1) _ h0.2.1
      |2=>simp only[gq,bE,aF] at hj;subst hj;exact cell w' hw (i*3+2) _ h0.2.2
      |j+3=>simp at hj)
     have zaR:=hT.size
     rw[hsz] at zaR
     simp only[bP,zX,fQ] at hL
     simp[EL.sz,et,E7 (hg▸hT.agg),mN zaR] at hL ⊢
     simp[hL]
    ·exact h.elim
   ·exact h.elim
  |false=>
   simp only[elK,hg] at h
   split at h
   ·exact⟨_,h,_,OB _ _,one _ _ (by simpa [EL.sz] using h0.1) hg⟩
   ·exact⟨_,h,_,OB _ _,one _ _ (by simpa [EL.sz] using h0.2.1) hg⟩
   ·exact⟨_,h,_,OB _ _,one _ _ (by simpa [EL.sz] using h0.2.2) hg⟩
   ·exact h.elim
theorem zbN{base n sz g:Nat}{xs:List aj}(h:w.ownsRow base E sz (.slice (ab ⟨g,0,ak⟩) n c) n xs):∀(j:Nat) u,xs[j]?=ab u->w.cell? ⟨g,0+j,ak⟩=ab u:=by
 intro j u hu
 have:=h.cells (g:=g) rfl j u hu
 rwa [jx] at this
theorem CX{e:au}{n:Nat}{ad:cr}(ht:P.underlying t=ab (.slice e))(hs:(P.info? e).map (·.size)=ab jU){k:cZ}{i:Int}(h1:0<=i)(h2:i<n)(w:ai):
  (iP t (.slice (ab ad) n c) (.int k i)).run P w=.ok (.pointer (ab (ad.add (i.toNat*jU)))) w:=by
 simp[iP,bB ht,nO,h1,h2,mN hs]
end
end Ab
open Go.RowKit
namespace Ab
section
variable{P:aG}{cx:Cx}{β:List En}{hp:Hp}{w:ai}
variable{t:au}{fs:List (Nat×Nat×Bool)}
theorem QH(h:KOk P t (.struct fs)):∃g,P.underlying t=ab (.struct g)/\g.toList.map (λ f=>(f.offset,(P.info? f.type).map (·.size),(P.underlying f.type).map Yl))=fs.map λ x=>(x.1,ab x.2.1,ab x.2.2):=by
 obtain⟨h,_⟩:=h
 cases hu:P.underlying t with
 |none=>rw[hu] at h;cases h
 |some d=>
  rw[hu] at h
  cases d<;>simp only[Option.bind_some] at h<;>first|(cases h;done)|skip
  exact⟨_,rfl,fS h⟩
variable{i:Nat}
theorem Iv(h:KOk P t (.struct fs)){o s:Nat}{ag:Bool}(hi:fs[i]?=ab (o,s,ag)):
  ∃g f,P.underlying t=ab (.struct g)/\g[i]?=ab f/\f.offset=o/\(P.info? f.type).map (·.size)=ab s/\(P.underlying f.type).map Yl=ab ag/\s≠0:=by
 obtain⟨g,hg,he⟩:=QH h
 have h1:=congrArg (λ l=>l[i]?) he
 simp only[List.getElem?_map,hi,cO] at h1
 obtain⟨f,hf,e⟩:=aN.1 h1
 simp only[bz] at e
 refine⟨g,f,hg,by simpa using hf,e.1,e.2.1,e.2.2,?_⟩
 have:=ef.1 h.2 _ (List.mem_of_getElem? hi)
 simpa using this
theorem J7(h:KOk P t (.struct fs)){o s:Nat}{ag:Bool}(hi:fs[i]?=ab (o,s,ag))(g off:Nat)(w:ai):
  (k9 t (.pointer (ab ⟨g,off,ak⟩)) i).run P w=.ok (.pointer (ab ⟨g,off+o,ak⟩)) w:=by
 obtain⟨fl,f,h1,h2,h3,h4,h5,h6⟩:=Iv h hi
 subst h3
 simp[k9,bB h1,h2,bZ,fieldPlace,mN h4,h6,jx]
theorem Y2{n:Nat}{g:Bool}(hg:(P.underlying t).map Yl=ab g)(hs:(P.info? t).map (·.size)=ab n){cs:List LV}{us:Array aj}{off:Nat}{K:AV->Prop}(hcs:jP cx β cs us.toList)(h:zaK cs off n g K):
  ∃r,K r/\∃v,AC cx β r v/\∀w,(part t us off).run P w=.ok v w:=by
 obtain⟨h1,h⟩:=tt.1 h
 obtain⟨h2,h⟩:=tC.1 h
 have hl:=(hcs.drop off).take n
 cases g with
 |true=>
  refine⟨_,h,.agg (us.extract off (off+n)),⟨_,rfl,?_⟩,λ w=>?_⟩
  ·simpa [Array.toList_extract,List.extract_eq_take_drop] using hl
  ·simp[part,E7 hg,mN hs]
 |false=>
  dsimp only at h
  split at h
  ·rename_i x hx
   rw[hx] at hl
   cases hu:(us.toList.drop off).take n with
   |nil=>rw[hu] at hl;exact hl.elim
   |cons v vs=>
    rw[hu] at hl
    refine⟨_,h,v,hl.1,λ w=>?_⟩
    have h0:us[off]?=ab v:=by
     have:=congrArg (λ l=>l[0]?) hu
     simp only[bE,l7,kh,ey] at this
     split at this
     ·simpa using this
     ·cases this
    simp[part,E7 hg,h0]
  ·exact h.elim
theorem run_places : ∀ (l : List Field) (fs : List (Nat × Nat × Bool)) (acc : Array (Nat × Nat)), l.map (fun f => (f.offset, (P.info? f.type).map (·.size), (P.underlying f.type).map Yl)) = fs.map (fun x => (x.1, ab x.2.1, ab x.2.2)) → ∀ w : ai,
    (l.foldlM (fun (b : Array (Nat × Nat)) (f : Field) => Functor.map b.push (do pure (f.offset, ← jl f.type) : Sem (Nat × Nat))) acc).run P w = .ok (acc ++ (fs.map fun x => (x.1, x.2.1)).toArray) w
  | [], [], acc, _, w => by simp
  | f :: l, x :: fs, acc, h, w => by
    simp only [dC, iw, bz] at h
    obtain ⟨⟨h1, h2, h3⟩, h4⟩ := h
    rw [iE]
    have ih := run_places l fs (acc.push (x.1, x.2.1)) h4
    change Sem.run P (((do pure (f.offset, ← jl f.type) : Sem (Nat × Nat)) >>= fun c => pure (acc.push c)) >>= fun b => l.foldlM _ b) w = _
    simp only [Sem.run_bind, mN h2, bc, Sem.run_pure, h1, ih w]
    congr 1
    simp
  | [], _ :: _, _, h, _ => by simp at h
  | _ :: _, [], _, h, _ => by simp at h
theorem He:∀(vs:List aj) (cells:Array aj) (off j:Nat),off+j+vs.length<=cells.size->
  ((vs.zipIdx j).foldl (λ cs (x:aj×Nat)=>cs.setIfInBounds (off+x.2) x.1) cells).toList=cells.toList.take (off+j)++vs++cells.toList.drop (off+j+vs.length)
 |[],cells,off,j,_=>by simp
 |v::vs,cells,off,j,h=>by
  simp only[bP] at h
  simp only[xS,List.foldl_cons]
  rw[He vs _ off (j+1) (by simp;omega)]
  have e:=list_seg_step cells.toList (off+j) v vs (by simp;omega)
  simp only[Array.toList_setIfInBounds]
  rw[<-gT]
  simpa [gT,zm 1] using e
theorem U6{fr:Fr}{a:Act}(hf:FR cx β fr a.tmps){fs:List (Nat×Nat×Bool)}:∀(parts:List (Nat×bp)) (cs:List LV) (us:Array aj) (K:List LV->Prop),jP cx β cs us.toList->zcU fr fs parts cs K->
  ∃kT,K kT/\∃SD,jP cx β kT SD.toList/\eJ ((fs.map λ x=>(x.1,x.2.1)).toArray[·]?) us (parts.map λ x=>(x.1,a.eval x.2))=ab SD
 |[],cs,us,K,hc,h=>⟨cs,h,us,hc,rfl⟩
 |(i,x)::parts,cs,us,K,hc,h=>by
  obtain⟨o,s,g,h1,h2⟩:=PI.1 h
  obtain⟨r,h3,h4⟩:=c7 hf h2
  have JH:∃vs,O9 vs s (AW cs o vs λ kT=>zcU fr fs parts kT K)/\jP cx β vs (a.eval x).cells.toList:=by
   unfold yJ at h3
   split at h3
   ·refine⟨_,h3,?_⟩
    have h5:LC cx β _ (a.eval x):=h4
    have h6:(a.eval x).cells=#[a.eval x]:=by
     have:=h5.1
     cases hv:a.eval x<;>first|rfl|(rw[hv] at this;cases this)
    rw[h6]
    exact⟨h5,trivial⟩
   ·obtain⟨SD,e,h5⟩:=h4
    exact⟨_,h3,by rw[e];exact h5⟩
   ·exact h3.elim
  obtain⟨vs,h5,h6⟩:=JH
  obtain⟨h7,h8⟩:=Bb.1 h5
  obtain⟨h9,vc⟩:=J6.1 h8
  have hl:vs.length=(a.eval x).cells.size:=by rw[h6.length];simp
  have hsz:us.size=cs.length:=by rw[hc.length];simp
  have Yt:=He (a.eval x).cells.toList us o 0 (by simp;omega)
  have MY:jP cx β (cs.take o++vs++cs.drop (o+vs.length)) ((a.eval x).cells.zipIdx.foldl (λ cs (x:aj×Nat)=>cs.setIfInBounds (o+x.2) x.1) us).toList:=by
   rw[<-j0,jB,Yt]
   simp only[ey,cA]
   rw[<-hl]
   exact jP.append (jP.append (hc.take o) h6) (hc.drop _)
  obtain⟨kT,Ju,SD,Yd,h13⟩:=U6 hf parts _ _ K MY vc
  refine⟨kT,Ju,SD,Yd,?_⟩
  simp only[dC,eJ]
  have hp:(fs.map λ x=>(x.1,x.2.1)).toArray[i]?=ab (o,s):=by simp[h1]
  rw[hp]
  simp only
  rw[if_neg (by simp;omega)]
  exact h13
theorem Qk{fr:Fr}{a:Act}(hf:FR cx β fr a.tmps){jU:Nat}:∀(parts:List (Nat×bp)) (cs:List LV) (us:Array aj) (K:List LV->Prop),jP cx β cs us.toList->Ws fr jU parts cs K->
  ∃kT,K kT/\∃SD,jP cx β kT SD.toList/\eJ (λ i=>ab (i*jU,jU)) us (parts.map λ x=>(x.1,a.eval x.2))=ab SD
 |[],cs,us,K,hc,h=>⟨cs,h,us,hc,rfl⟩
 |(i,x)::parts,cs,us,K,hc,h=>by
  obtain⟨r,h3,h4⟩:=c7 hf h
  have JH:∃vs,O9 vs jU (AW cs (i*jU) vs λ kT=>Ws fr jU parts kT K)/\jP cx β vs (a.eval x).cells.toList:=by
   unfold yJ at h3
   split at h3
   ·refine⟨_,h3,?_⟩
    have h5:LC cx β _ (a.eval x):=h4
    have h6:(a.eval x).cells=#[a.eval x]:=by
     have:=h5.1
     cases hv:a.eval x<;>first|rfl|(rw[hv] at this;cases this)
    rw[h6]
    exact⟨h5,trivial⟩
   ·obtain⟨SD,e,h5⟩:=h4
    exact⟨_,h3,by rw[e];exact h5⟩
   ·exact h3.elim
  obtain⟨vs,h5,h6⟩:=JH
  obtain⟨h7,h8⟩:=Bb.1 h5
  obtain⟨h9,vc⟩:=J6.1 h8
  have hl:vs.length=(a.eval x).cells.size:=by rw[h6.length];simp
  have hsz:us.size=cs.length:=by rw[hc.length];simp
  have Yt:=He (a.eval x).cells.toList us (i*jU) 0 (by simp;omega)
  have MY:jP cx β (cs.take (i*jU)++vs++cs.drop (i*jU+vs.length)) ((a.eval x).cells.zipIdx.foldl (λ cs (x:aj×Nat)=>cs.setIfInBounds (i*jU+x.2) x.1) us).toList:=by
   rw[<-j0,jB,Yt]
   simp only[ey,cA]
   rw[<-hl]
   exact jP.append (jP.append (hc.take (i*jU)) h6) (hc.drop _)
  obtain⟨kT,Ju,SD,Yd,h13⟩:=Qk hf parts _ _ K MY vc
  refine⟨kT,Ju,SD,Yd,?_⟩
  simp only[dC,eJ]
  rw[if_neg (by simp;omega)]
  exact h13
def Sm(cx:Cx)(β:List En)(hp:Hp)(W:Option (Nat×List Nat))(w w':ai):Prop:=match W with
 |none=>w'=w
 |some (n,Wl)=>∀b,((∃k,k<n/\k∉Wl/\ownB hp β k=ab b)\/(b<cx.w0.heap.size/\b∉cx.M))->w'.heap[b]?=w.heap[b]?
variable{W:Option (Nat×List Nat)}{b:Nat}
theorem PQ{k:Nat}(hm:JK W k=ae)(ho:ownB hp β k=ab b){w':ai}(hs:Sm cx β hp W w w'):w'.heap[b]?=w.heap[b]?:=by
 cases W with
 |none=>have:w'=w:=hs;rw[this]
 |some W=>
  obtain⟨n,Wl⟩:=W
  simp only[JK,aE,Bool.not_eq_true'] at hm
  refine hs b (.inl ⟨k,by simpa [Nat.blt_eq] using hm.1,λ hc=>?_,ho⟩)
  rw[Hk.2 hc] at hm
  cases hm.2
theorem zm1(h1:b<cx.w0.heap.size)(h2:b∉cx.M){w':ai}(hs:Sm cx β hp W w w'):w'.heap[b]?=w.heap[b]?:=by
 cases W with
 |none=>have:w'=w:=hs;rw[this]
 |some W=>exact hs b (.inr ⟨h1,h2⟩)
theorem s5{s: Sem aj}{v: aj}{w: ai}(h : s.run P w = .ok v w) : (do pure (lZ (← s)) : Sem Next).run P w = .ok (.value v) w := by
  simp [h]
theorem zg6{k eC sz off:Nat}{v v1:aj}(h:LC cx β (.e k eC sz i off) v)(h1:β[k]?=ab (.r v1 eC)):∃g n1 c1,v1=.slice (ab ⟨g,0,ak⟩) n1 c1/\v=.pointer (ab ⟨g,i*sz+off,ak⟩):=by
 obtain⟨_,v2,Au,h2,h3,h4⟩:=h
 rw[h1] at h2
 simp only[aF,En.r.injEq] at h2
 obtain⟨rfl,rfl⟩:=h2
 exact h4 rfl
theorem P3:∀{xs:List (LV⊕List LV)} {vs:List aj} {i:Nat} {K:AV->Prop},VO cx β xs vs->zrn xs i K->∃r,K r/\∃v,AC cx β r v/\vs[i]?=ab v
 |[],_,_,_,_,h=>h.elim
 |.inl x::xs,v::vs,0,K,hc,h=>⟨_,h,v,hc.1,rfl⟩
 |.inr cs::xs,v::vs,0,K,hc,h=>⟨_,h,v,hc.1,rfl⟩
 |.inl x::xs,v::vs,i+1,K,hc,h=>by
  obtain⟨r,h1,u,h2,h3⟩:=P3 hc.2 (i:=i) h
  exact⟨r,h1,u,h2,by simpa using h3⟩
 |.inr x::xs,v::vs,i+1,K,hc,h=>by
  obtain⟨r,h1,u,h2,h3⟩:=P3 hc.2 (i:=i) h
  exact⟨r,h1,u,h2,by simpa using h3⟩
 |.inl _::_,[],_,_,hc,_=>hc.elim
 |.inr _::_,[],_,_,hc,_=>hc.elim
theorem Iw(h:KOk P t (.struct fs)):∃g,P.underlying t=ab (.struct g):=by
 obtain⟨h1,_⟩:=h
 obtain⟨d,hd,h2⟩:=cP.1 h1
 split at h2
 ·exact⟨_,hd⟩
 ·cases h2
theorem Vx:∀{cs:List LV} {K:List aj->Prop},zhz cs K->∃us,K us/\∀vs,jP cx β cs vs->vs=us
 |[],K,h=>⟨[],h,λ vs hv=>by cases vs with|nil=>rfl|cons _ _=>exact hv.elim⟩
 |.v x::r,K,h=>by
  obtain⟨us,h1,h2⟩:=Vx (cs:=r) h
  refine⟨x::us,h1,λ vs hv=>?_⟩
  cases vs with
  |nil=>exact hv.elim
  |cons v vs=>
   have e:v=x:=hv.1.2
   rw[e,h2 vs hv.2]
 |.p _ _::_,_,h=>h.elim
 |.s _ _::_,_,h=>h.elim
 |.w _ _ _ _ _::_,_,h=>h.elim
 |.f _::_,_,h=>h.elim
 |.fx _ _::_,_,h=>h.elim
 |.e _ _ _ _ _::_,_,h=>h.elim
 |.g _ _ _::_,_,h=>h.elim
 |.o _ _::_,_,h=>h.elim
 |.m _::_,_,h=>h.elim
 |.j::_,_,h=>h.elim
theorem findNow_spec(n:Int):∀(en:List MapEntry) (es:List (Int×aj)) (i:Nat),en.map (λ e=>(e.key,e.val))=es.map (λ x=>(eE .i64 x.1,x.2))->∃j,lb (.int .i64) (.int .i64 n) en i=ab ((V7 es n).map λ v=>(j,v))
 |[],[],i,_=>⟨0,rfl⟩
 |e::en,(k,v)::es,i,h=>by
  simp only[dC,iw,bz] at h
  obtain⟨⟨h1,h2⟩,h3⟩:=h
  obtain⟨j,hj⟩:=findNow_spec n en es (i+1) h3
  by_cases hk:k=n
  ·subst hk
   exact⟨i,by simp[lb,DY,h1,h2,V7]⟩
  ·have tl:(n == k)=aa:=by simpa using λ e:n=k=>hk e.symm
   exact⟨j,by simp[lb,DY,h1,V7,hk,tl,hj]⟩
 |[],_::_,_,h=>by simp at h
 |_::_,[],_,h=>by simp at h
theorem Vb(h:KOk P t .map):∃k e,P.underlying t=ab (.map k e)/\P.underlying k=ab (.int .i64):=by
 obtain⟨d,hd,h2⟩:=cP.1 h
 split at h2
 ·rename_i k e
  obtain⟨d2,Ss,h3⟩:=aN.1 h2
  unfold zhi at h3
  split at h3
  ·exact⟨k,e,hd,Ss⟩
  ·cases h3
 ·cases h2
theorem zdE{k:au}(hk:P.underlying k=ab (.int .i64))(n:Int)(e:Bool)(w:ai):(nK e 10000 k (.int .i64 n)).run P w=.ok () w:=by
 unfold nK
 simp[bB hk]
variable{es:List (Int×aj)}
theorem ZE{k:au}(hk:P.underlying k=ab (.int .i64)){n:Int}{en:Array MapEntry}(he:en.toList.map (λ e=>(e.key,e.val))=es.map λ x=>(eE .i64 x.1,x.2))(w:ai):∃j,(oE k (.int .i64 n) en.toList).run P w=.ok ((V7 es n).map λ v=>(j,v)) w:=by
 obtain⟨j,hj⟩:=findNow_spec n en.toList es 0 he
 refine⟨j,?_⟩
 unfold oE
 rw[Sem.run_bind,bB hk,bc,hj]
 rfl
theorem zjo(h:KOk P t .map){w:ai}{o:Obj}(hb:w.heap[b]?=ab o)(ho:SP es o){n:Int}{v:aj}(hg:V7 es n=ab v):(ta t (.map (ab b)) (.int .i64 n) aa).run P w=.ok v w:=by
 obtain⟨en,cl,rfl,he⟩:=ho
 obtain⟨k,e,h1,h2⟩:=Vb h
 obtain⟨j,hj⟩:=ZE h2 (n:=n) he w
 rw[hg] at hj
 simp[ta,bB h1,zH hb,zdE h2,hj]
theorem znt(h:KOk P t .map){w:ai}{o:Obj}(hb:w.heap[b]?=ab o)(ho:SP es o){n:Int}{v:aj}(hg:V7 es n=ak):∃o',SP (es++[(n,v)]) o'/\(mo t (.map (ab b)) (.int .i64 n) v).run P w=.ok () { w with heap:=w.heap.setIfInBounds b o' }:=by
 obtain⟨en,cl,rfl,he⟩:=ho
 obtain⟨k,e,h1,h2⟩:=Vb h
 obtain⟨j,hj⟩:=ZE h2 (n:=n) he w
 rw[hg] at hj
 refine⟨.map (en.push { key:=.int .i64 n,val:=v,born:=cl }) (cl+1),⟨_,_,rfl,by simp[he]⟩,?_⟩
 simp[mo,bB h1,zH hb,zdE h2,hj,MapKept.run_setObj_map _ hb]
theorem Kb{T:oU}(hT:jc P T){fr:Fr}{a:Act}{o:di}{K:AV->Prop}(hI:Inv cx β hp w)(hf:FR cx β fr a.tmps)(h:UR T W fr hp o.op K):
  ∃r,K r/\∃v,AC cx β r v/\∀w',Sm cx β hp W w w'->(bd a.eval o).run P w'=.ok (.value v) w':=by
 obtain⟨dst,op,ty,pos,after,guard⟩:=o
 cases op<;>first|exact h.elim|skip
 case move x=>
  obtain⟨r,h1,h2⟩:=c7 hf h
  exact⟨r,h1,_,h2,λ w' _=>rfl⟩
 case assign x=>
  obtain⟨r,h1,h2⟩:=c7 hf h
  exact⟨r,h1,_,h2,λ w' _=>rfl⟩
 case pick c x y=>
  obtain⟨r,h1,h2⟩:=c7 hf h
  split at h1
  ·rename_i t
   obtain⟨_,hc⟩:=h2
   rw[za3] at h1
   cases t with
   |true=>
    obtain⟨r,h3,h4⟩:=c7 hf h1
    exact⟨r,h3,_,h4,λ w' _=>by simp[bd,hc,asBool]⟩
   |false=>
    obtain⟨r,h3,h4⟩:=c7 hf h1
    exact⟨r,h3,_,h4,λ w' _=>by simp[bd,hc,asBool]⟩
  ·exact h1.elim
 case binOp op t x y yt=>
  obtain⟨ra,h1,h2⟩:=c7 hf h
  obtain⟨rb,h3,h4⟩:=c7 hf h1
  obtain⟨r,h5,v,h6,h7⟩:=zig hT h3 h2 h4 x y
  exact⟨r,h5,v,h6,λ w' _=>s5 (h7 w')⟩
 case unOp op t x=>
  obtain⟨ra,h1,h2⟩:=c7 hf h
  cases op<;>first|exact h1.elim|skip
  case neg=>
   dsimp only at h1
   split at h1
   ·obtain⟨_,he⟩:=h2
    obtain⟨h3,h4⟩:=ba.1 h1
    exact⟨_,h4,_,OB _ _,λ w' _=>s5 (by rw[he];simp only[A4,pB,tV h3];rfl)⟩
   ·exact h1.elim
  case not=>
   dsimp only at h1
   split at h1
   ·obtain⟨_,he⟩:=h2
    exact⟨_,h1,_,acB _,λ w' _=>by simp[bd,he,A4]⟩
   ·exact h1.elim
 case convert s d x=>
  obtain⟨ra,h0,h2⟩:=c7 hf h
  obtain⟨si,hs0,h1⟩:=eU.1 h0
  split at h1
  ·obtain⟨_,he⟩:=h2
   obtain⟨ti,h3,h4⟩:=eU.1 h1
   split at h4
   ·rename_i k hk
    obtain⟨h5,h6⟩:=ba.1 h4
    have hu:=(hT d ti h3).kind
    rw[hk] at hu
    have mS:P.underlying d=ab (.int k):=hu
    refine⟨_,h6,_,OB _ _,λ w' _=>s5 ?_⟩
    rw[he]
    have hs:∃ds,P.underlying s=ab ds:=by cases hq:P.underlying s with|none=>have:=(hT s _ hs0).agg;rw[hq] at this;cases this|some ds=>exact⟨ds,rfl⟩
    obtain⟨ds,hds⟩:=hs
    unfold convert
    rw[Sem.run_bind,bB hds,bc,Sem.run_bind,bB mS,bc]
    cases ds<;>simp[Conv.intToInt,tV h5]
   ·exact h4.elim
  ·exact h1.elim
 case extract x i=>
  obtain⟨ra,h1,h2⟩:=c7 hf h
  split at h1
  ·rename_i xs
   obtain⟨vs,he,hc⟩:=h2
   obtain⟨r,h3,v,h4,h5⟩:=P3 hc h1
   refine⟨r,h3,v,h4,λ w' _=>s5 ?_⟩
   have h6:vs[i]?=ab v:=by simpa using h5
   rw[he]
   simp[mI,h6]
  ·exact h1.elim
 case lookup t x i ok=>
  cases ok with
  |true=>exact h.elim
  |false=>
   obtain⟨ra,h1,h2⟩:=c7 hf h
   obtain⟨rb,h3,h4⟩:=c7 hf h1
   split at h3
   ·rename_i k
    split at h3
    ·rename_i n
     obtain⟨ti,h5,h6⟩:=eU.1 h3
     have nZ:=(hT t ti h5).kind
     split at h6
     ·rename_i hk
      rw[hk] at nZ
      obtain⟨hm,h7⟩:=ba.1 h6
      obtain⟨X5,h8,h9⟩:=iS.1 h7
      split at h9
      ·rename_i Φ
       obtain⟨es,v,g1,g2,g3,g4⟩:=h9
       obtain⟨_,b,hb,he⟩:=h2
       obtain⟨_,hi⟩:=h4
       have ho:=hI.OZ k _ _ h8 hb
       obtain⟨_,ob,hob,hΦ⟩:=ho
       refine⟨_,g4,v,⟨g3,rfl⟩,λ w' hs=>s5 ?_⟩
       have hw:=PQ hm (show ownB hp β k=ab b by rw[ownB_of h8 hb];rfl) hs
       rw[he,hi]
       exact zjo nZ (hw.trans hob) (g1 _ hΦ) g2
      ·exact h9.elim
     ·exact h6.elim
    ·exact h3.elim
   ·exact h3.elim
 case nilCheck x=>
  obtain⟨ra,h1,h2⟩:=c7 hf h
  split at h1
  ·have h3:=h2.2
   obtain⟨n,_,he⟩:=h3
   exact⟨_,h1,_,h2,λ w' _=>by simp[bd,he]⟩
  ·exact h1.elim
 case makeInterface t x=>
  obtain⟨ra,h0,h2⟩:=c7 hf h
  obtain⟨ti,ht,h1⟩:=eU.1 h0
  have DD:=(hT t ti ht).kind
  split at h1
  ·rename_i k
   split at h1
   ·rename_i e hk
    rw[hk] at DD
    have hu:P.underlying t=ab (.pointer e):=DD
    obtain⟨_,n,hn,he⟩:=h2
    exact⟨_,h1,_,⟨rfl,n,hn,rfl⟩,λ w' _=>s5 (by rw[he];simp[jD,bB hu])⟩
   ·exact h1.elim
  ·rename_i cs
   split at h1
   ·rename_i fs hk
    obtain⟨vs,he,hc⟩:=h2
    obtain⟨us,h3,h4⟩:=Vx (cx:=cx) (β:=β) h1
    have yB:vs=us.toArray:=bk.1 (by rw[h4 _ hc])
    have nZ:=DD
    rw[hk] at nZ
    obtain⟨g',hu⟩:=Iw nZ
    exact⟨_,h3,_,⟨rfl,rfl⟩,λ w' _=>s5 (by rw[he,yB];simp[jD,bB hu])⟩
   ·exact h1.elim
  ·exact h1.elim
 case typeAssert x xt t ok=>
  cases ok
  case true=>exact h.elim
  obtain⟨ra,h0,h2⟩:=c7 hf h
  obtain⟨ti,ht,h1⟩:=eU.1 h0
  have DD:=(hT t ti ht).kind
  split at h1
  ·rename_i t' us
   split at h1
   ·rename_i fs hk
    obtain⟨h3,h4⟩:=ba.1 h1
    obtain⟨h5,h6⟩:=ba.1 h4
    have e:t'=t:=bf h3
    subst e
    rw[hk] at DD
    obtain⟨g',hu⟩:=Iw DD
    obtain⟨_,he⟩:=h2
    refine⟨_,h6,.agg us,⟨us,rfl,jP.consts λ v hv=>ef.1 h5 v hv⟩,λ w' _=>s5 ?_⟩
    rw[he]
    simp[Instr.typeAssert,bB hu]
   ·exact h1.elim
  ·exact h1.elim
 case build t parts=>
  obtain⟨ti,h1,h2⟩:=eU.1 h
  have DD:=hT t ti h1
  split at h2
  ·rename_i fs hk
   have nZ:=DD.kind
   rw[hk] at nZ
   obtain⟨g,hg,hfl⟩:=QH nZ
   obtain⟨z,hz,hrz⟩:=DD.PY
   have AL:jP cx β ti.zl z.cells.toList:=by rw[hz];exact DD.zhB
   obtain⟨kT,h3,SD,h4,h5⟩:=U6 hf parts.toList _ z.cells _ AL h2
   refine⟨_,h3,.agg SD,⟨SD,rfl,h4⟩,λ w' _=>s5 ?_⟩
   have hpl:=run_places (P:=P) g.toList fs #[] hfl w'
   unfold iV
   rw[Sem.run_bind,hrz,bc,Sem.run_bind,bB hg,bc]
   dsimp only
   rw[Sem.run_bind,gm,<-iq,hpl,bc]
   simp only[Array.empty_append,nT,h5]
   rfl
  ·rename_i m e jU eg hk
   have nZ:=DD.kind
   rw[hk] at nZ
   obtain⟨hu,hes,_⟩:=nZ
   obtain⟨z,hz,hrz⟩:=DD.PY
   have AL:jP cx β ti.zl z.cells.toList:=by rw[hz];exact DD.zhB
   obtain⟨kT,h3,SD,h4,h5⟩:=Qk hf parts.toList _ z.cells _ AL h2
   refine⟨_,h3,.agg SD,⟨SD,rfl,h4⟩,λ w' _=>s5 ?_⟩
   unfold iV
   rw[Sem.run_bind,hrz,bc,Sem.run_bind,bB hu,bc]
   dsimp only
   rw[Sem.run_bind,mN hes,bc]
   simp only[nT,h5]
   rfl
  ·exact h2.elim
 case field t x f=>
  obtain⟨ra,h1,h2⟩:=c7 hf h
  split at h1
  ·obtain⟨ti,h3,h4⟩:=eU.1 h1
   split at h4
   ·rename_i fs hk
    have nZ:=(hT t ti h3).kind
    rw[hk] at nZ
    obtain⟨o,s,g,h5,h6⟩:=PI.1 h4
    obtain⟨fl,fd,e1,e2,e3,e4,e5,_⟩:=Iv nZ h5
    obtain⟨us,he,hc⟩:=h2
    obtain⟨r,h7,v,h8,h9⟩:=Y2 e5 e4 hc h6
    refine⟨r,h7,v,h8,λ w' _=>s5 ?_⟩
    rw[he]
    unfold vD
    rw[Sem.run_bind,bB e1,bc]
    simp[e2,e3,asAgg,h9]
   ·exact h4.elim
  ·exact h1.elim
 case fieldAddr t x f=>
  obtain⟨ra,h1,h2⟩:=c7 hf h
  obtain⟨ti,h3,h4⟩:=eU.1 h1
  split at h4
  ·rename_i fs hk
   have nZ:=(hT t ti h3).kind
   rw[hk] at nZ
   obtain⟨o,s,g,h5,h6⟩:=PI.1 h4
   split at h6
   ·obtain⟨_,n,hn,he⟩:=h2
    exact⟨_,h6,_,⟨rfl,n,hn,rfl⟩,λ w' _=>s5 (by rw[he];exact J7 nZ h5 _ _ w')⟩
   ·rename_i k eC sz i off
    obtain⟨E,l,hr,h7⟩:=eV h6
    obtain⟨v1,r2,r3,r4⟩:=lq hI hr
    obtain⟨g1,n1,c1,hv,he⟩:=zg6 (cx:=cx) h2 r2
    exact⟨_,h7,_,⟨rfl,v1,eC,r2,aA _,λ _=>⟨g1,n1,c1,hv,rfl⟩⟩,λ w' _=>s5 (by rw[he];have:=J7 nZ h5 g1 (i*sz+off) w';simpa [gT] using this)⟩
   ·rename_i l i off
    obtain⟨_,v1,g1,o1,n,c,hz,hv,he⟩:=h2
    exact⟨_,h6,_,⟨rfl,v1,g1,o1,n,c,hz,hv,rfl⟩,λ w' _=>s5 (by rw[he];have:=J7 nZ h5 g1 (o1+(i*l.sz+off)) w';simpa [gT] using this)⟩
   ·exact h6.elim
  ·exact h4.elim
 case slice t x lo hi mx=>
  cases mx with
  |some m=>exact h.elim
  |none=>
   obtain⟨ra,h1,h2⟩:=c7 hf h
   obtain⟨ti,h3,h4⟩:=eU.1 h1
   split at h4
   ·rename_i e jU ek hk
    have nZ:=(hT t ti h3).kind
    rw[hk] at nZ
    obtain⟨k1,k2,k3,k4⟩:=nZ
    have hs:(P.info? e).map (·.size)=ab jU:=by
     obtain⟨f,VP,e1⟩:=aN.1 k2
     simp only[bz] at e1
     rw[VP,cO,e1.2]
    obtain⟨r,h5,v,h6,h7⟩:=zij (P:=P) hI hf k1 hs h2 h4
    exact⟨r,h5,v,h6,λ w' _=>s5 (h7 w')⟩
   ·exact h4.elim
 case indexAddr t x i=>
  obtain⟨ra,h1,h2⟩:=c7 hf h
  obtain⟨rb,h3,h4⟩:=c7 hf h1
  split at h3
  ·rename_i k0 n
   obtain⟨_,hi⟩:=h4
   obtain⟨ti,h5,h6⟩:=eU.1 h3
   have nZ:=(hT t ti h5).kind
   split at h6
   ·rename_i e jU ek hk
    rw[hk] at nZ
    obtain⟨k1,k2,k3,k4⟩:=nZ
    have hs:(P.info? e).map (·.size)=ab jU:=by
     obtain⟨f,VP,e1⟩:=aN.1 k2
     simp only[bz] at e1
     rw[VP,cO,e1.2]
    obtain⟨m,h7,ad,c,he⟩:=zg hI h2 h6
    obtain⟨⟨n0,n1⟩,h8⟩:=ba.1 h7
    clear h6 h7 h3
    split at h8
    ·rename_i l
     obtain⟨hb,h9⟩:=ba.1 h8
     have hsz:jU=l.sz:=bf hb
     have hz:FZ cx (a.eval x) l:=h2.2
     rw[he] at hz
     have hm:m=l.len:=kN hz.1
     have had:∃g o,ad=ab ⟨g,o,ak⟩:=by
      rcases hz.1.2 with⟨e0,_⟩|⟨g',MZ,V2,cur,T',e0,_⟩
      ·omega
      ·simp only[b9] at e0;exact⟨g',MZ,e0.1⟩
     obtain⟨g,o,rfl⟩:=had
     refine⟨_,h9,_,⟨rfl,_,g,o,m,c,hz,rfl,rfl⟩,λ w' _=>s5 ?_⟩
     rw[he,hi,CX k1 hs n0 n1,jx,hsz]
     rfl
    ·rename_i u l
     obtain⟨hb,h9⟩:=ba.1 h8
     have hsz:jU=l.sz:=bf hb
     have hz:FZ cx (a.eval x) l:=h2.2.2
     rw[he] at hz
     have hm:m=l.len:=kN hz.1
     have had:∃g o,ad=ab ⟨g,o,ak⟩:=by
      rcases hz.1.2 with⟨e0,_⟩|⟨g',MZ,V2,cur,T',e0,_⟩
      ·omega
      ·simp only[b9] at e0;exact⟨g',MZ,e0.1⟩
     obtain⟨g,o,rfl⟩:=had
     refine⟨_,h9,_,⟨rfl,_,g,o,m,c,hz,rfl,rfl⟩,λ w' _=>s5 ?_⟩
     rw[he,hi,CX k1 hs n0 n1,jx,hsz]
     rfl
    ·rename_i k eC
     obtain⟨E,l,hr,h9⟩:=eV h8
     obtain⟨hb,vc⟩:=ba.1 h9
     obtain⟨v1,r2,r3,r4⟩:=lq hI hr
     have hv:=LO (cx:=cx) h2 r2
     rw[he] at hv
     subst hv
     have hm:m=l.len:=kN (oZ r3 (EL.tP _))
     have had:∃g,ad=ab ⟨g,0,ak⟩:=by
      rcases r3.2 with⟨e0,_⟩|⟨g',V2,cur,e0,_⟩
      ·simp only[b9] at e0;omega
      ·simp only[b9] at e0;exact⟨g',e0.1⟩
     obtain⟨g,rfl⟩:=had
     refine⟨_,vc,.pointer (ab ⟨g,n.toNat*jU+0,ak⟩),⟨rfl,_,_,r2,aA _,λ _=>⟨g,m,c,rfl,rfl⟩⟩,λ w' _=>s5 ?_⟩
     rw[he,hi,CX k1 hs n0 n1,jx]
     simp
    ·rename_i k eC sz i0 n2
     obtain⟨E,l,hr,h9⟩:=eV h8
     obtain⟨hb,vc⟩:=ba.1 h9
     have hsz:jU=sz:=bf hb
     subst hsz
     obtain⟨v1,r2,r3,r4⟩:=lq hI hr
     have hP:=YR (cx:=cx) h2 r2
     rw[he] at hP
     obtain⟨a',c',e0,hn',V4⟩:=hP
     simp only[b9] at e0
     obtain⟨rfl,rfl,rfl⟩:=e0
     obtain⟨g,n3,c3,hv1,rfl,_⟩:=V4 (by omega)
     refine⟨_,vc,.pointer (ab ⟨g,(i0+n.toNat)*jU+0,ak⟩),⟨rfl,_,_,r2,aA _,λ _=>⟨g,n3,c3,hv1,rfl⟩⟩,λ w' _=>s5 ?_⟩
     rw[he,hi,CX k1 hs n0 n1,jx,<-gj]
     simp
    ·exact h8.elim
   ·rename_i m e jU zea hk
    rw[hk] at nZ
    obtain⟨k1,k2,k3⟩:=nZ
    obtain⟨⟨n0,n1⟩,h8⟩:=ba.1 h6
    split at h8
    ·obtain⟨_,n2,hn,he⟩:=h2
     refine⟨_,h8,_,⟨rfl,n2,hn,rfl⟩,λ w' _=>s5 ?_⟩
     rw[he,hi]
     simp[iP,bB k1,nO,bZ,n0,n1,mN k2,jx]
    ·exact h8.elim
   ·exact h6.elim
  ·exact h3.elim
 case index t x i=>
  obtain⟨ra,h1,h2⟩:=c7 hf h
  obtain⟨rb,h3,h4⟩:=c7 hf h1
  split at h3
  ·rename_i k0 n
   obtain⟨_,hi⟩:=h4
   obtain⟨ti,h5,h6⟩:=eU.1 h3
   have nZ:=(hT t ti h5).kind
   split at h6
   ·rename_i m e jU zea hk
    rw[hk] at nZ
    obtain⟨k1,k2,k3⟩:=nZ
    obtain⟨⟨n0,n1⟩,h8⟩:=ba.1 h6
    split at h8
    ·obtain⟨us,he,hc⟩:=h2
     obtain⟨r,h9,v,vc,Ju⟩:=Y2 k3 k2 hc h8
     refine⟨r,h9,v,vc,λ w' _=>s5 ?_⟩
     rw[he,hi]
     unfold kG
     simp[nO,bB k1,n0,n1,mN k2,Ju]
    ·exact h8.elim
   ·exact h6.elim
  ·exact h3.elim
 case load t x=>
  obtain⟨ra,h1,h2⟩:=c7 hf h
  obtain⟨ti,h3,h4⟩:=eU.1 h1
  have DD:=hT t ti h3
  split at h4
  ·rename_i k off
   obtain⟨hm,h5⟩:=ba.1 h4
   obtain⟨x1,h6,h7⟩:=iS.1 h5
   split at h7
   ·rename_i cs T1
    obtain⟨_,n,hn,he⟩:=h2
    have ho:=hI.OZ k _ _ h6 hn
    obtain⟨_,us,hb,hc⟩:=ho
    obtain⟨r,h8,v,h9,vc⟩:=Y1 DD hb hc h7
    refine⟨r,h8,v,h9,λ w' hs=>s5 ?_⟩
    rw[he]
    have hw:=PQ hm (show ownB hp β k=ab n by rw[ownB_of h6 hn];rfl) hs
    simpa [eY,bZ] using vc w' hw
   ·exact h7.elim
  ·rename_i k eC sz i off
   obtain⟨hm,h5⟩:=ba.1 h4
   obtain⟨E,l,h6,h7⟩:=eV h5
   obtain⟨hbz,h7'⟩:=ba.1 h7
   have hsz:sz=l.sz:=bf hbz
   obtain⟨cj,h8⟩:=ba.1 h7'
   obtain⟨v1,r2,r3,r4⟩:=lq hI h6
   obtain⟨g1,n1,c1,hv,he⟩:=zg6 (cx:=cx) h2 r2
   subst hv
   have hn:n1=l.len:=kN (oZ r3 (EL.tP _))
   subst hn
   obtain⟨r,h9,v,vc,Ju⟩:=zdk (w:=w) DD (zbN r3) cj h8
   refine⟨r,h9,v,vc,λ w' hs=>s5 ?_⟩
   have hw:=PQ hm (show ownB hp β k=ab g1 by rw[ownB_of h6 r2];rfl) hs
   rw[he,hsz]
   have:=Ju w' hw
   rw[fQ] at this
   simpa [eY,bZ] using this
  ·rename_i l i off
   obtain⟨cj,h8⟩:=ba.1 h4
   obtain⟨_,v1,g1,o1,n,c,hz,hv,he⟩:=h2
   subst hv
   have hn:n=l.len:=kN hz.1
   have hcell:=Sl.cells (hn▸hz.sl hI) (by omega)
   simp only[jx] at hcell
   obtain⟨r,h9,v,vc,Ju⟩:=zdk (w:=w) DD hcell cj h8
   refine⟨r,h9,v,vc,λ w' hs=>s5 ?_⟩
   have h0:=hz.1
   have hb:g1<cx.w0.heap.size:=by
    rcases hz.1.2 with⟨e0,_⟩|⟨g',MZ,V2,cur,T',e0,_,e1,_⟩
    ·omega
    ·simp only[b9,aF,Addr.mk.injEq] at e0
     obtain⟨⟨rfl,_⟩,_⟩:=e0
     exact(ah.1 e1).1
   have hw:=zm1 (b:=g1) hb (hz.2.2 (by omega) g1 rfl) hs
   rw[he]
   simpa [eY,bZ] using Ju w' hw
  ·exact h4.elim
 case call c=>
  obtain⟨callee,args,qv⟩:=c
  cases callee<;>first|exact h.elim|skip
  rename_i bb
  cases bb<;>first|exact h.elim|skip
  ·obtain⟨rs,h1,h2⟩:=rS hf h
   split at h1
   ·rename_i x
    split at h1
    ·rename_i t iZ
     obtain⟨ti,h3,h4⟩:=eU.1 h1
     have nZ:=(hT t ti h3).kind
     have hargs:∃y,args.toList.map a.eval=[y]/\AC cx β x y:=by
      cases hl:args.toList.map a.eval with
      |nil=>rw[hl] at h2;exact h2.elim
      |cons y ys=>
       rw[hl] at h2
       cases ys with
       |nil=>exact⟨y,rfl,h2.1⟩
       |cons _ _=>exact h2.2.elim
     obtain⟨y,hy,hxy⟩:=hargs
     have hy':args.map a.eval=#[y]:=by
      apply bk.1
      simpa using hy
     have zqY:qv=#[t]:=bk.1 iZ
     have fin:∀(n:Nat),(∀w,(kJ #[t] ty #[y]).run P w=.ok (.int .i64 n) w)->K (I .i64 n)->∃r,K r/\∃v,AC cx β r v/\∀w',Sm cx β hp W w w'->(bd a.eval { dst:=dst,op:=.call { callee:=.builtin .len,args:=args,argTypes:=qv },type:=ty,pos:=pos,after:=after,guard:=guard }).run P w'=.ok (.value v) w':=by
      intro n eB hK
      refine⟨_,hK,_,OB _ _,λ w' _=>?_⟩
      simp[bd,resolve,hy',invoke,builtin,zqY,eB]
     split at h4
     ·rename_i e jU ek hk
      rw[hk] at nZ
      obtain⟨k1,_⟩:=nZ
      obtain⟨n,h5,ad,c,rfl⟩:=zg hI hxy h4
      exact fin n (λ w=>by simp[kJ,bB k1,goInt]) h5
     ·rename_i e hk
      rw[hk] at nZ
      have k1:P.underlying t=ab (.slice e):=nZ
      obtain⟨n,h5,ad,c,rfl⟩:=zg hI hxy h4
      exact fin n (λ w=>by simp[kJ,bB k1,goInt]) h5
     ·rename_i hk
      rw[hk] at nZ
      have k1:P.underlying t=ab .string:=nZ
      split at h4
      ·obtain⟨_,rfl⟩:=hxy
       exact fin _ (λ w=>by simp[kJ,bB k1,goInt]) h4
      ·exact h4.elim
     ·exact h4.elim
    ·exact h1.elim
   ·exact h1.elim
  ·obtain⟨rs,h1,h2⟩:=rS hf h
   split at h1
   ·rename_i k x k' y
    have hargs:args.toList.map a.eval=[.int k x,.int k' y]:=by
     cases hl:args.toList.map a.eval with
     |nil=>rw[hl] at h2;exact h2.elim
     |cons u us=>
      rw[hl] at h2
      cases us with
      |nil=>exact h2.2.elim
      |cons v vs=>
       obtain⟨⟨_,e1⟩,⟨_,e2⟩,h3⟩:=h2
       cases vs with
       |nil=>rw[e1,e2]
       |cons _ _=>exact h3.elim
    have hy':args.map a.eval=#[.int k x,.int k' y]:=by
     apply bk.1
     simpa using hargs
    refine⟨_,h1,_,OB _ _,λ w' _=>?_⟩
    simp[bd,resolve,hy',invoke,builtin,Builtin.max_,Builtin.max2,zuM]
   ·exact h1.elim
  ·obtain⟨rs,h1,h2⟩:=rS hf h
   split at h1
   ·rename_i k x k' y
    have hargs:args.toList.map a.eval=[.int k x,.int k' y]:=by
     cases hl:args.toList.map a.eval with
     |nil=>rw[hl] at h2;exact h2.elim
     |cons u us=>
      rw[hl] at h2
      cases us with
      |nil=>exact h2.2.elim
      |cons v vs=>
       obtain⟨⟨_,e1⟩,⟨_,e2⟩,h3⟩:=h2
       cases vs with
       |nil=>rw[e1,e2]
       |cons _ _=>exact h3.elim
    have hy':args.map a.eval=#[.int k x,.int k' y]:=by
     apply bk.1
     simpa using hargs
    refine⟨_,h1,_,OB _ _,λ w' _=>?_⟩
    simp[bd,resolve,hy',invoke,builtin,Builtin.min_,Builtin.min2,yI]
   ·exact h1.elim
end
end Ab
open Go.RowKit
namespace Ab
structure Out(cx:Cx)(β:List En)(hp:Hp)(w:ai)(S:Nat->Prop)(cT:List En)(bG:Hp)(w':ai):Prop where
 inv:Inv cx cT bG w'
 ext:Ext β cT
 om:∀k b,ownB bG cT k=ab b->ownB hp β k=ab b\/w.heap.size<=b
 size:w.heap.size<=w'.heap.size
 len:hp.length<=bG.length
 own:∀k,k<hp.length->¬S k->ownB bG cT k=ownB hp β k
 C4:∀b,b<w.heap.size->(∀k,S k->ownB hp β k≠ab b)->w'.heap[b]?=w.heap[b]?
def SW:Option (Nat×List Nat)->Nat->Prop
 |none,_=>True
 |some (n,Wl),k=>k∈Wl\/n<=k
theorem uh{W:Option (Nat×List Nat)}{k:Nat}:A0 W k=ae↔SW W k:=by
 cases W with
 |none=>simp[A0,SW]
 |some W=>obtain⟨n,Wl⟩:=W;simp[A0,SW,Hk]
section
variable{P:aG}{cx:Cx}{β:List En}{hp:Hp}{w:ai}{S:Nat->Prop}
theorem Out.refl(hI:Inv cx β hp w):Out cx β hp w S β hp w:=⟨hI,Ext.refl _,λ _ _ h=>.inl h,aA _,aA _,λ _ _ _=>rfl,λ _ _ _=>rfl⟩
theorem Out.stay(hI:Inv cx β hp w){w':ai}(hb:cE w.heap.size w w'):Out cx β hp w S β hp w':=
 ⟨hI.stay hb,Ext.refl _,λ _ _ h=>.inl h,hb.size,aA _,λ _ _ _=>rfl,λ b h _=>hb.block b h⟩
theorem Out.mono{S':Nat->Prop}{cT:List En}{bG:Hp}{w':ai}(h:Out cx β hp w S cT bG w')(hs:∀k,S k->S' k):Out cx β hp w S' cT bG w':=
 ⟨h.inv,h.ext,h.om,h.size,h.len,λ k hk hn=>h.own k hk λ e=>hn (hs k e),λ b hb hn=>h.C4 b hb λ k hk=>hn k (hs k hk)⟩
theorem tu{k:Nat}(h:hp[k]?=ak):ownB hp β k=ak:=by unfold ownB;rw[h]
theorem zh2{k:Nat}(h:hp[k]?=ab .d):ownB hp β k=ak:=by unfold ownB;rw[h];cases β[k]?<;>rfl
theorem Out.upd(hI:Inv cx β hp w){k0:Nat}{h':HB}{e':En}{bG:Hp}{cT:List En}{w':ai}(hS:S k0)(ht:wa (λ b=>ownB hp β k0=ab b) w w')
  (hk:∀k,k≠k0->bG[k]?=hp[k]?/\cT[k]?=β[k]?) (hh:bG[k0]?=ab h') (he:cT[k0]?=ab e') (hlen:cT.length=bG.length) (hle:hp.length<=bG.length) (hx:Ext β cT) (fc:HOk cx cT w' h' e')
  (dY:∀b,ow h' e'=ab b->ownB hp β k0=ab b\/w.heap.size<=b):Out cx β hp w S cT bG w':=by
 have same:∀k,k≠k0->ownB bG cT k=ownB hp β k:=λ k h=>by unfold ownB;rw[(hk k h).1,(hk k h).2]
 refine⟨hI.upd ht hk hh he hlen hx fc dY,hx,λ k b hb=>?_,ht.size,hle,λ k _ hn=>same k λ e=>hn (e▸hS),λ b hb hn=>ht.block b hb (hn k0 hS)⟩
 by_cases h:k=k0
 ·subst h
  rw[ownB_of hh he] at hb
  exact dY b hb
 ·rw[same k h] at hb
  exact .inl hb
theorem Hm{rsv:Option Nat}{x:HB}{K:Nat->Hp->Prop}(hI:Inv cx β hp w)(h:Wa rsv hp x K)(e:En)(hS:∀k,(rsv=ab k\/hp.length<=k)->S k){w':ai}(hb:cE w.heap.size w w')
  (dY:∀b,ow x e=ab b->w.heap.size<=b) (fc:∀cT,Ext β cT->HOk cx cT w' x e):∃k bG cT,K k bG/\cT[k]?=ab e/\Out cx β hp w S cT bG w':=by
 cases rsv with
 |none=>
  have h1:=PH.1 h
  have hx:Ext β (β++[e]):=by
   intro k e0 he
   have cj:k < β.length:=(aO.1 he).1
   have me:(β++[e])[k]?=ab e0:=by rw[aQ cj];exact he
   cases e0 with
   |b n=>exact me
   |r v eC=>exact⟨v,eC,me,aA _,λ _=>rfl⟩
   |x=>trivial
  refine⟨_,_,β++[e],h1,by rw[fQ,<-hI.len];simp,?_⟩
  refine Out.upd (k0:=hp.length) (h':=x) (e':=e) hI (hS _ (.inr (aA _))) (wa.PS hb) (λ k hk=>?_) (by simp) (by rw[<-hI.len];simp) (by simp[hI.len]) (by simp) hx (fc _ hx) (λ b hb=>.inr (dY b hb))
  have hl:=hI.len
  by_cases cj:k<hp.length
  ·exact⟨aQ cj,aQ (by omega)⟩
  ·rw[mO (by simp;omega),mO (by omega),mO (by simp;omega),mO (by omega)]
   exact⟨rfl,rfl⟩
 |some k=>
  obtain⟨y,h1,h2⟩:=iS.1 h
  split at h2
  ·obtain⟨h3,h4⟩:=nq.1 h2
   have hl:=hI.len
   have hkb:k < β.length:=by omega
   have hx:Ext β (β.set k e):=by
    intro i e0 he
    by_cases hik:i=k
    ·subst hik
     have ho:=hI.OZ i _ _ h1 he
     cases e0<;>first|exact ho.elim|trivial
    ·have me:(β.set k e)[i]?=ab e0:=by rw[cd (dr hik)];exact he
     cases e0 with
     |b n=>exact me
     |r v eC=>exact⟨v,eC,me,aA _,λ _=>rfl⟩
     |x=>trivial
   refine⟨k,_,β.set k e,h4,by simp[hkb],?_⟩
   exact Out.upd (k0:=k) (h':=x) (e':=e) hI (hS _ (.inl rfl)) (wa.PS hb) (λ i hi=>⟨cd (dr hi),cd (dr hi)⟩) (by simp[h3]) (by simp[hkb]) (by simp[hl]) (by simp) hx (fc _ hx) (λ b hb=>.inr (dY b hb))
  ·exact h2.elim
theorem dK{fr:Fr}{d:Option Tmp}{r:AV}{K:Fr->Prop}{a:Act}{v:aj}(h:qw fr d r K)(hf:FR cx β fr a.tmps)(hr:AC cx β r v):∃bx,K bx/\FR cx β bx (a.put d v).tmps/\(a.put d v).defers=a.defers:=by
 cases d with
 |none=>exact⟨fr,h,hf,rfl⟩
 |some d=>
  obtain⟨h1,h2⟩:=jY.1 h
  refine⟨_,h2,⟨by simp[rq,hf.1],λ i x hi=>?_⟩,rfl⟩
  by_cases hid:i=d
  ·subst hid
   rw[List.getElem?_set_self (by omega)] at hi
   obtain rfl:=fS hi
   have:i<a.tmps.size:=by rw[<-hf.1];exact h1
   simpa [rq,Array.getD,this] using hr
  ·rw[cd (dr hid)] at hi
   have:=hf.2 i x hi
   have e:(a.put (ab d) v).tmps.getD i undef=a.tmps.getD i undef:=by
    simp only[rq,bS,bt (dr hid)]
   rw[e]
   exact this
def zqN(cx:Cx)(β:List En)(hp:Hp)(w:ai)(S:Nat->Prop)(a:Act)(K:Fr->Hp->Prop):Act->ai->Prop:=λ a' w'=>∃bx bG cT,K bx bG/\FR cx cT bx a'.tmps/\a'.defers=a.defers/\Out cx β hp w S cT bG w'
theorem Fg{a:AV}{v:aj}{K:List LV->Prop}(h:yJ a K)(ha:AC cx β a v):∃vs,K vs/\jP cx β vs v.cells.toList:=by
 unfold yJ at h
 split at h
 ·refine⟨_,h,?_⟩
  have h5:LC cx β _ v:=ha
  have h6:v.cells=#[v]:=by
   have:=h5.1
   cases hv:v<;>first|rfl|(rw[hv] at this;cases this)
  rw[h6]
  exact⟨h5,trivial⟩
 ·obtain⟨SD,e,h5⟩:=ha
  exact⟨_,h,by rw[e];exact h5⟩
 ·exact h.elim
theorem Qt{fr:Fr}{a:Act}(hf:FR cx β fr a.tmps){sz:Nat}:∀(i n:Nat) (parts:List (Nat×bp)) (K:List LV->Prop),JN fr sz i n parts K->
  ∃cs,K cs/\∃us:List aj,jP cx β cs us/\us.length=n*sz/\∀(m:Nat) (cells:Array aj),m=i+n->cells.size=m*sz->∃lT:Array aj,eJ (λ i=>ab (i*sz,sz)) cells (parts.map λ x=>(x.1,a.eval x.2))=ab lT/\lT.toList=cells.toList.take (i*sz)++us
 |i,0,[],K,h=>⟨[],h,[],trivial,by simp,λ m cells hm hc=>⟨cells,rfl,by simp;rw[bq (by simp;rw[hc,hm];simp)]⟩⟩
 |i,n+1,(i',x)::r,K,h=>by
  obtain⟨h1,h2⟩:=ba.1 h
  have hi:i=i':=bf h1
  subst hi
  obtain⟨ra,h3,h4⟩:=c7 hf h2
  obtain⟨vs,h5,h6⟩:=Fg h3 h4
  obtain⟨h7,h8⟩:=Bb.1 h5
  obtain⟨cs,h9,us,vc,Ju,Yd⟩:=Qt hf (i+1) n r _ h8
  have zvH:∀(vs cs:List LV) (K:List LV->Prop),JN.zhn vs cs K->K (vs++cs):=by
   intro vs
   induction vs with
   |nil=>intro cs K h;exact h
   |cons v vs ih=>intro cs K h;exact ih cs _ h
  have hl:(a.eval x).cells.size=sz:=by rw[<-h7,h6.length];simp
  refine⟨vs++cs,zvH _ _ _ h9,(a.eval x).cells.toList++us,jP.append h6 vc,by simp[hl,Ju,jI];omega,λ m cells hm hc=>?_⟩
  have hle:(i+1)*sz<=m*sz:=br _ (by omega)
  rw[jI] at hle
  have Yt:=He (a.eval x).cells.toList cells (i*sz) 0 (by simp;omega)
  obtain⟨lT,h13,h14⟩:=Yd m ((a.eval x).cells.zipIdx.foldl (λ cs (x:aj×Nat)=>cs.setIfInBounds (i*sz+x.2) x.1) cells) (by omega) (by
   have:=congrArg List.length Yt
   rw[<-j0,jB,<-cA,this]
   simp
   omega)
  refine⟨lT,?_,?_⟩
  ·simp only[dC,eJ]
   rw[if_neg (by simp;omega)]
   exact h13
  ·rw[h14,<-j0,jB,Yt]
   simp only[ey,cA,hl]
   rw[List.take_append_of_le_length (by simp;rw[hl,jI];omega),bq (by simp;rw[hl,jI];omega)]
   simp
 |_,0,_::_,_,h=>by simp[JN] at h
 |_,_+1,[],_,h=>by simp[JN] at h
theorem zfh{ek:EK}{cs:List LV}{us:List aj}{K:EL->Prop}(h:LQ ek cs K)(hc:jP cx β cs us):∃l,K l/\l.enc=us/\l.sz=ek.sz:=by
 have go:∀(cs:List LV) (us:List aj) (K:EL->Prop),LQ.go cs K->jP cx β cs us->∃l,K (.ints l)/\(EL.ints l).enc=us:=by
  intro cs
  induction cs with
  |nil=>
   intro us K h hc
   cases us with
   |nil=>exact⟨[],h,rfl⟩
   |cons _ _=>exact hc.elim
  |cons c r ih=>
   intro us K h hc
   unfold LQ.go at h
   split at h
   ·rename_i e;cases e
   ·rename_i n r' e
    obtain⟨rfl,rfl⟩:=List.cons.inj e
    cases us with
    |nil=>exact hc.elim
    |cons u us=>
     obtain⟨l,h1,h2⟩:=ih us _ h hc.2
     obtain⟨⟨_,rfl⟩,_⟩:=hc
     exact⟨n::l,h1,by simp only[EL.enc,dC] at h2 ⊢;rw[h2]⟩
   ·exact h.elim
 have go2:∀(m:Nat) (cs:List LV) (us:List aj) (K:EL->Prop),cs.length<=m->LQ.go2 cs K->jP cx β cs us->∃l,K (.bK l)/\(EL.bK l).enc=us:=by
  intro m
  induction m with
  |zero=>
   intro cs us K hm h hc
   cases cs with
   |nil=>
    cases us with
    |nil=>exact⟨[],h,rfl⟩
    |cons _ _=>exact hc.elim
   |cons _ _=>simp at hm
  |succ m ih=>
   intro cs us K hm h hc
   unfold LQ.go2 at h
   split at h
   ·cases us with
    |nil=>exact⟨[],h,rfl⟩
    |cons _ _=>exact hc.elim
   ·rename_i n1 n2 r'
    cases us with
    |nil=>exact hc.elim
    |cons u us=>cases us with
     |nil=>exact hc.2.elim
     |cons u2 us=>
      obtain⟨l,h1,h2⟩:=ih r' us _ (by simp at hm;omega) h hc.2.2
      obtain⟨⟨_,rfl⟩,⟨_,rfl⟩,_⟩:=hc
      exact⟨(n1,n2)::l,h1,by simp only[EL.enc,dc] at h2 ⊢;rw[h2];rfl⟩
   ·exact h.elim
 have go3:∀(m:Nat) (cs:List LV) (us:List aj) (K:EL->Prop),cs.length<=m->LQ.go3 cs K->jP cx β cs us->∃l,K (.k3 l)/\(EL.k3 l).enc=us:=by
  intro m
  induction m with
  |zero=>
   intro cs us K hm h hc
   cases cs with
   |nil=>
    cases us with
    |nil=>exact⟨[],h,rfl⟩
    |cons _ _=>exact hc.elim
   |cons _ _=>simp at hm
  |succ m ih=>
   intro cs us K hm h hc
   unfold LQ.go3 at h
   split at h
   ·cases us with
    |nil=>exact⟨[],h,rfl⟩
    |cons _ _=>exact hc.elim
   ·rename_i n1 n2 n3 r'
    cases us with
    |nil=>exact hc.elim
    |cons u us=>cases us with
     |nil=>exact hc.2.elim
     |cons u2 us=>cases us with
      |nil=>exact hc.2.2.elim
      |cons u3 us=>
       obtain⟨l,h1,h2⟩:=ih r' us _ (by simp at hm;omega) h hc.2.2.2
       obtain⟨⟨_,rfl⟩,⟨_,rfl⟩,⟨_,rfl⟩,_⟩:=hc
       exact⟨(n1,n2,n3)::l,h1,by simp only[EL.enc,dc] at h2 ⊢;rw[h2];rfl⟩
   ·exact h.elim
 cases ek with
 |k3=>obtain⟨l,h1,h2⟩:=go3 _ cs us K (aA _) h hc;exact⟨_,h1,h2,rfl⟩
 |ints=>obtain⟨l,h1,h2⟩:=go cs us K h hc;exact⟨_,h1,h2,rfl⟩
 |bytes=>
  cases cs with
  |nil=>
   cases us with
   |nil=>exact⟨_,h,rfl,rfl⟩
   |cons _ _=>exact hc.elim
  |cons _ _=>exact h.elim
 |bK=>obtain⟨l,h1,h2⟩:=go2 _ cs us K (aA _) h hc;exact⟨_,h1,h2,rfl⟩
def ST:Option (List Nat)->Nat->Prop
 |none,_=>True
 |some l,k=>k∈l
structure bW(P:aG)(f:ck)(c:CS):Prop where
 fn:(P.funcs[f]?).map (λ fn=>(fn.name == "runtime.NumGoroutine",fn.body.isNone))=ab (aa,aa)
 snd:∀as1 hp K,c.S as1 hp K->∀cx β (w:ai) (vs:Array aj),Inv cx β hp w->(Gw cx.w0/\Gm cx.M)->Uv cx β as1 vs.toList->
  Calls P f vs w λ e w'=>∃v r bG cT,e=.returned v/\K r bG/\AC cx cT r v/\Out cx β hp w (ST (c.C4 as1)) cT bG w'
def bg(P:aG)(G:Env):Prop:=∀f c,(f,c)∈G->bW P f c
def AN(P:aG)(G:Env)(cx:Cx):Prop:=bg P G/\(G=[]\/(Gw cx.w0/\Gm cx.M))
theorem AN.gl{P:aG}{G:Env}{cx:Cx}(h:AN P G cx){f:ck}{c:CS}(hc:(f,c)∈G):Gw cx.w0/\Gm cx.M:=by
 rcases h.2 with h|h
 ·rw[h] at hc
  cases hc
 ·exact h
theorem qd{f:ck}(h:(P.funcs[f]?).map (λ fn=>(fn.name == "runtime.NumGoroutine",fn.body.isNone))=ab (aa,aa))(vs:Array aj)(w:ai):(callFunc f vs).run P w=.ok (.enter f vs) w:=by
 obtain⟨fn,hf,e⟩:=aN.1 h
 simp only[bz] at e
 obtain⟨e1,e2⟩:=e
 unfold callFunc
 change Sem.run P (match P.funcs[f]? with|none=>_|some fn=>_) w=_
 rw[hf]
 dsimp only
 rw[e1]
 simp only[Bool.false_eq_true,if_false]
 rw[e2]
 rfl
theorem P5{W:Option (Nat×List Nat)}:∀{l:List Nat},zcS W l=ae->∀k∈l,SW W k
 |[],_,k,hk=>by cases hk
 |a::l,h,k,hk=>by
  simp only[zcS,aE] at h
  rcases bF.1 hk with rfl|hk
  ·exact uh.1 h.1
  ·exact P5 h.2 k hk
theorem vI{W:Option (Nat×List Nat)}{l:Option (List Nat)}(h:Px W l=ae)(k:Nat)(hk:ST l k):SW W k:=by
 cases l with
 |some l=>cases W<;>exact P5 h k hk
 |none=>cases W with
  |none=>trivial
  |some W=>cases h
theorem zh6{l m:EL}{K:EL->Prop}(h:zoJ l m K):∃l',K l'/\l'.enc=l.enc++m.enc/\l'.len=l.len+m.len/\l'.sz=l.sz/\m.sz=l.sz:=by
 cases l<;>cases m<;>first|exact h.elim|exact⟨_,h,by simp[EL.enc],by simp[EL.len],rfl,rfl⟩
end
end Ab
end
end Go.Proofs.YtdpfknhenjngcaaGreatDoor
