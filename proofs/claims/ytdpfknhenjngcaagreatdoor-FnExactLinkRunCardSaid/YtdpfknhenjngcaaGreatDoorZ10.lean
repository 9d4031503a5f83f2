/-
  The lone walks (part 10). No condition.
-/
import Derived.Test.YtdpfknhenjngcaaGreatDoorZ9
import Derived.Laws.OwnMore
import Derived.Laws.MakeOwn
set_option linter.unusedSimpArgs false
set_option linter.unusedVariables false
set_option linter.unusedSectionVars false
set_option maxRecDepth 100000
set_option maxHeartbeats 2000000
open Array renaming length_toList→cA,getElem?_append_left→kj,toList_inj→bk,getElem?_eq_some_iff→ah,getElem?_setIfInBounds_ne→bt,range→iU,toList_map→nT,getD→qQ,getElem?_eq_getElem→bj
open Bool renaming and_eq_true→aE,or_eq_true→iv
open Classical renaming byCases→fw
open Go renaming World→ai,Value→aj,madeCells→CP,TypeId→au,FuncId→ck,execOp→bd,Oper→di,Exit→ni,heap_alloc_new→jZ,newRow→yM,run_underlying→bB,maxLen→pR,setRow_heap→Bt,setRow_other→zC,Deferred→eH,Program→aG,Exit.then→CK,ResultVar→mz,Func→fI
open Go.Act renaming eval→bX
open Go.Calls renaming mono→cR
open Go.Deferred renaming ofValue→iC
open Go.Instr renaming buildSlice→lE,storeAt→lf,sureAddr→bZ,loadAt→eY
open Go.Oper renaming wp→lp,wp_mono→te
open Go.Region renaming wanted→aR
open Go.Result renaming andThen_ok→bc
open Go.RowKit renaming Below→cE
open Go.TypeDesc renaming int→qc,pointer→bQ
open Go.Value renaming int→eE,cells→Bj,ownBlock→qf,pointer→oG
open Go.Value.slice renaming injEq→b9
open Int renaming eq_ofNat_of_zero_le→gn,toNat_natCast→je
open List renaming replicate→aX,replicate_succ→sV,flatMap_cons→dc,getElem?_replicate→de,drop_eq_getElem_cons→iz,take_append_drop→dH,getD→my,flatMap_append→oe,cons_append→jR,nil_append→ju,set_eq_take_append_cons_drop→kq,map_append→sH,map_cons→dC,length_append→dp,length_take→dm,length_drop→iF,take_of_length_le→bq,getElem?_set_ne→cd,append_assoc→dN,getElem?_eq_some_iff→aO,mem_of_getElem?→kR,getElem?_cons_zero→bE,getElem?_eq_getElem→aW,getElem?_append_left→aQ,getElem?_append_right→cX,foldlM_cons→iE,nodup_append→jf,mem_append→jr,getElem?_concat_length→jK,mem_cons→bF,take_add_one→dO
open Nat renaming le_refl→aA,add_mul→gj,min_eq_left→eP,le_of_lt→Hu,mul_le_mul_right→br,le_mul_of_pos_right→yn,zero_le→bw,add_zero→ey,eq_of_beq_eq_true→bf,mul_le_mul_left→og,le_trans→bD,lt_of_lt_of_le→aY,ble_eq→Fb,beq_eq→y6,beq→cQ,ble→hY
open Option renaming map_eq_some_iff→aN,map_some→cO,bind_some→lG,getD_some→cS
open Option.some renaming injEq→aF,inj→fS
open Prod.mk renaming injEq→bz
open Bool renaming true→ae,false→aa
open Option renaming some→ab,none→ak
namespace Go.Proofs.YtdpfknhenjngcaaGreatDoor
section
open Go.RowKit
namespace Ab
section
variable{P:aG}{cx:Cx}{β:List En}{hp:Hp}{w:ai}
theorem zh9(w:ai)(o:Obj):cE w.heap.size w (w.alloc o):=(Below.refl _ _).alloc (aA _) o
theorem zhA {s : Sem aj} {v : aj} {w w' : ai} (h : s.run P w = .ok v w') : (do pure (Next.value (← s)) : Sem Next).run P w = .ok (.value v) w' := by
  simp [h]
theorem jP.ext'{cT:List En}(hx:Ext β cT){xs:List LV}{vs:List aj}(h:jP cx β xs vs):jP cx cT xs vs:=jP.ext hx h
theorem zji(ek:EK)(n:Nat):(ek.We n).sz=ek.sz/\(ek.We n).len=n/\(ek.We n).enc=(CP ek.zero.cells (n*ek.sz)).toList:=by
 refine⟨by cases ek<;>rfl,by cases ek<;>simp[EK.We,EL.len],?_⟩
 apply List.ext_getElem?
 intro j
 have h2:∀n:Nat,(aX n ((0:Int),(0:Int))).flatMap (λ g=>[eE .i64 g.1,.int .i64 g.2])=aX (n*2) (.int .i64 0):=by
  intro n
  induction n with
  |zero=>rfl
  |succ n ih=>rw[sV,dc,ih,gj];rfl
 have h3:∀n:Nat,(aX n ((0:Int),(0:Int),(0:Int))).flatMap (λ g=>[eE .i64 g.1,.int .i64 g.2.1,.int .i64 g.2.2])=aX (n*3) (.int .i64 0):=by
  intro n
  induction n with
  |zero=>rfl
  |succ n ih=>rw[sV,dc,ih,gj];rfl
 cases ek with
 |k3=>
  simp only[EK.We,EL.enc,EK.zero,EK.sz,CP,h3,de]
  by_cases hj:j<n*3
  ·have:j % 3=0\/j % 3=1\/j % 3=2:=by omega
   rcases this with e|e|e<;>simp[hj,Bj,e]
  ·simp[hj]
 |ints=>
  simp only[EK.We,EL.enc,EK.zero,EK.sz,CP,List.map_replicate,de]
  by_cases hj:j<n
  ·simp[hj,Nat.mod_one,Bj]
  ·simp[hj]
 |bytes=>
  simp only[EK.We,EL.enc,EK.zero,EK.sz,CP,List.map_replicate,de]
  by_cases hj:j<n
  ·simp[hj,Nat.mod_one,Bj]
  ·simp[hj]
 |bK=>
  simp only[EK.We,EL.enc,EK.zero,EK.sz,CP,h2,de]
  by_cases hj:j<n*2
  ·have:j % 2=0\/j % 2=1:=by omega
   rcases this with e|e<;>simp[hj,Bj,e]
  ·simp[hj]
theorem zbC(l:List (Int×Int))(i:Nat)(h:i<l.length):∃A B:List aj,A.length=i*2/\(EL.bK l).enc=A++.int .i64 (l.getD i (0,0)).1::.int .i64 (l.getD i (0,0)).2::B/\∀g:Int×Int,(EL.bK (l.set i g)).enc=A++.int .i64 g.1::.int .i64 g.2::B:=by
 refine⟨(EL.bK (l.take i)).enc,(EL.bK (l.drop (i+1))).enc,?_,?_,λ g=>?_⟩
 ·have:=EL.GW (.bK (l.take i))
  rw[this]
  simp[EL.len,EL.sz,eP (Hu h)]
 ·have e:l=l.take i++l[i]::l.drop (i+1):=by
   rw[<-iz h,dH]
  have hg:l.getD i (0,0)=l[i]:=by simp[my,h]
  rw[hg]
  conv=>lhs;rw[e]
  simp only[EL.enc,oe,dc,jR,ju]
 ·rw[kq,if_pos h]
  simp only[EL.enc,oe,dc,jR,ju]
theorem ziM(l:List (Int×Int×Int))(i:Nat)(h:i<l.length):∃(A B:List aj) (x y z:aj),A.length=i*3/\(EL.k3 l).enc=A++x::y::z::B/\∀g:Int×Int×Int,(EL.k3 (l.set i g)).enc=A++.int .i64 g.1::.int .i64 g.2.1::.int .i64 g.2.2::B:=by
 refine⟨(EL.k3 (l.take i)).enc,(EL.k3 (l.drop (i+1))).enc,.int .i64 l[i].1,.int .i64 l[i].2.1,.int .i64 l[i].2.2,?_,?_,λ g=>?_⟩
 ·have:=EL.GW (.k3 (l.take i))
  rw[this]
  simp[EL.len,EL.sz,eP (Hu h)]
 ·have e:l=l.take i++l[i]::l.drop (i+1):=by
   rw[<-iz h,dH]
  conv=>lhs;rw[e]
  simp only[EL.enc,oe,dc,jR,ju]
 ·rw[kq,if_pos h]
  simp only[EL.enc,oe,dc,jR,ju]
theorem zbI(l:List Int)(i:Nat)(h:i<l.length):∃(A B:List aj) (y:aj),A.length=i/\(EL.ints l).enc=A++y::B/\∀g:Int,(EL.ints (l.set i g)).enc=A++.int .i64 g::B:=by
 refine⟨(EL.ints (l.take i)).enc,(EL.ints (l.drop (i+1))).enc,.int .i64 l[i],?_,?_,λ g=>?_⟩
 ·simp[EL.enc,eP (Hu h)]
 ·have e:l=l.take i++l[i]::l.drop (i+1):=by
   rw[<-iz h,dH]
  conv=>lhs;rw[e]
  simp only[EL.enc,sH,dC]
 ·rw[kq,if_pos h]
  simp only[EL.enc,sH,dC]
theorem zbY{l:EL}{i off:Nat}{vs:List LV}{us:List aj}{K:EL->Prop}(hv:jP cx β vs us)(cj:i<l.len)(h:zhr l i off vs K):
  ∃l',K l'/\l'.len=l.len/\l'.sz=l.sz/\off+vs.length<=l.sz/\l'.enc=l.enc.take (i*l.sz+off)++us++l.enc.drop (i*l.sz+off+us.length):=by
 have one:∀{x:aj} {us:List aj},jP cx β [.v x] us->us=[x]:=λ {x us} hv=>by
  cases us with
  |nil=>exact hv.elim
  |cons a r=>cases r with
   |nil=>obtain⟨⟨_,e⟩,_⟩:=hv;rw[e]
   |cons _ _=>exact hv.2.elim
 have two:∀{x y:aj} {us:List aj},jP cx β [.v x,.v y] us->us=[x,y]:=λ {x y us} hv=>by
  cases us with
  |nil=>exact hv.elim
  |cons a r=>
   obtain⟨⟨_,e⟩,h2⟩:=hv
   have e:a=x:=e
   rw[e,one h2]
 have three:∀{x y z:aj} {us:List aj},jP cx β [.v x,.v y,.v z] us->us=[x,y,z]:=λ {x y z us} hv=>by
  cases us with
  |nil=>exact hv.elim
  |cons a r=>
   obtain⟨⟨_,e⟩,h2⟩:=hv
   have e:a=x:=e
   rw[e,two h2]
 unfold zhr at h
 split at h
 ·rename_i l
  split at h
  ·split at h
   ·rename_i x
    have e:=one hv
    subst e
    obtain⟨A,B,y,h1,h2,h3⟩:=zbI l i cj
    refine⟨_,h,by simp[EL.len],rfl,by simp[EL.sz],?_⟩
    rw[h3,h2]
    simp[EL.sz,<-h1]
   ·exact h.elim
  ·exact h.elim
 ·rename_i l
  obtain⟨A,B,h1,h2,h3⟩:=zbC l i cj
  have e1:i*(EL.bK l).sz=A.length:=h1.symm
  split at h
  ·split at h
   ·have e:=one hv
    subst e
    refine⟨_,h,by simp[EL.len],rfl,by simp[EL.sz],?_⟩
    rw[h3,h2,e1]
    simp
   ·have e:=two hv
    subst e
    refine⟨_,h,by simp[EL.len],rfl,by simp[EL.sz],?_⟩
    rw[h3,h2,e1]
    simp
   ·exact h.elim
  ·split at h
   ·have e:=one hv
    subst e
    refine⟨_,h,by simp[EL.len],rfl,by simp[EL.sz],?_⟩
    rw[h3,h2,e1]
    simp only[List.take_length_add_append,List.drop_length_add_append,Nat.add_assoc,List.take_succ_cons,List.take_zero,List.drop_succ_cons,List.drop_zero,List.length_singleton]
    simp
   ·exact h.elim
  ·exact h.elim
 ·exact h.elim
 ·rename_i l
  obtain⟨A,B,x0,y0,z0,h1,h2,h3⟩:=ziM l i cj
  have e1:i*(EL.k3 l).sz=A.length:=h1.symm
  split at h
  ·split at h
   ·have e:=three hv
    subst e
    refine⟨_,h,by simp[EL.len],rfl,by simp[EL.sz],?_⟩
    rw[h3,h2,e1]
    simp
   ·exact h.elim
  ·exact h.elim
theorem zbO{w:ai}{base:Nat}{E:au}{sz g n cap:Nat}{xs us:List aj}{j:Nat}(h:w.ownsRow base E sz (.slice (ab ⟨g,0,ak⟩) n cap) n xs)(hj:j+us.length<=n*sz):
  ∃cur,w.heap[g]?=ab (.cells cur E (0,0))/\j+us.length<=cur.size/\∀w':ai,w'.heap[g]?=ab (.cells (cur.toList.take j++us++cur.toList.drop (j+us.length)).toArray E (0,0))->w'.ownsRow base E sz (.slice (ab ⟨g,0,ak⟩) n cap) n (xs.take j++us++xs.drop (j+us.length)):=by
 obtain⟨h1,h2|⟨g',V2,cur,h2,h3,h4,h5,h6,h7,h8⟩⟩:=h
 ·cases h2.1
 ·simp only[b9,aF,Addr.mk.injEq,true_and,and_true] at h2
  obtain⟨rfl,rfl⟩:=h2
  have hle:n*sz<=cur.size:=by rw[h7];exact br _ h5
  refine⟨cur,h4,by omega,λ w' hw=>⟨?_,.inr ⟨g,cap,_,rfl,h3,hw,h5,h6,?_,?_⟩⟩⟩
  ·simp only[dp,dm,iF,h1]
   omega
  ·simp only[List.size_toArray,dp,dm,iF,cA,h7] at *
   omega
  ·rw[<-h8]
   apply List.ext_getElem?
   intro q
   simp only[List.getElem?_take,List.getElem?_append,List.getElem?_drop,dp,dm,cA]
   rw[eP (by omega:j<=cur.size),eP (by omega:n*sz<=cur.size),eP (by omega:j<=n*sz)]
   repeat' split
   all_goals first|rfl|omega|(congr 1;omega)
theorem Vd:∀{ms:List (String×ck×Bool)} {m:String} {K:ck->Bool->Prop},zc2 ms m K->∃f p,(m,f,p)∈ms/\K f p
 |[],_,_,h=>h.elim
 |(n,f,p)::r,m,K,h=>by
  unfold zc2 at h
  split at h
  ·rename_i e
   have e:n=m:=by simpa using e
   subst e
   exact⟨f,p,by simp,h⟩
  ·obtain⟨f',p',h1,h2⟩:=Vd (ms:=r) h
   exact⟨f',p',by simp[h1],h2⟩
theorem Qy{ρ:Operand->aj}{dst:Option Tmp}{rv:Operand}{name:String}{args:Array Operand}{qv:Array au}{ty:au}{pos:String}{after:Array Edge}{guard:Option (Nat×Bool)}{t:au}{v r:aj}{f:ck}{w:ai}
  (he:ρ rv=.iface t v) (hm:(method (P.types.size+Made.depth) t v name).run P w=.ok (f,r) w) (hc:(callFunc f (#[r]++args.map ρ)).run P w=.ok (.enter f (#[r]++args.map ρ)) w):
  (bd ρ { dst:=dst,op:=.call { callee:=.invoke rv name,args:=args,argTypes:=qv },type:=ty,pos:=pos,after:=after,guard:=guard }).run P w=.ok (.enter f (#[r]++args.map ρ)) w:=by
 have h2:(#[ρ rv]++args.map ρ)[0]?=ab (.iface t v):=by rw[he,kj (by simp)];rfl
 have h3:(#[ρ rv]++args.map ρ).extract 1 (#[ρ rv]++args.map ρ).size=args.map ρ:=by
  apply bk.1
  simp
  rw[bq (by simp)]
 simp only[bd,resolve,Sem.run_bind,Sem.run_pure,bc,invoke,h2,h3,callMethod]
 simp only[run_program,bc,hm,hc]
theorem ziU{t:au}{ti:TI}(hT:dJ P t ti)(hI:Inv cx β hp w){k n:Nat}{cs:List LV}{T1:au}(h9:hp[k]?=ab (.b cs T1))(hn:β[k]?=ab (.b n)){K:AV->Prop}(h:zaK cs 0 ti.sz ti.agg K):
  ∃x v,K x/\AC cx β x v/\(loadVar t ⟨n,0,ak⟩).run P w=.ok v w:=by
 obtain⟨_,us,hb,hc⟩:=hI.OZ k _ _ h9 hn
 obtain⟨r,h8,v,h9,vc⟩:=Y1 hT hb hc h
 exact⟨r,v,h8,h9,vc w rfl⟩
theorem A9{T:oU}{G:Env}(hT:jc P T)(hG:AN P G cx){W:Option (Nat×List Nat)}{rsv:Option Nat}{fr:Fr}{a:Act}{o:di}{K:Fr->Hp->Prop}{Q:ni->Act->ai->Prop}
  (hI:Inv cx β hp w) (hf:FR cx β fr a.tmps) (hr:∀k,(rsv=ab k\/hp.length<=k)->SW W k) (h:zeb T G W rsv fr hp o K):o.wp P a w (zqN cx β hp w (SW W) a K) Q:=by
 have soft:(UR T ak fr hp o.op λ r=>qw fr o.dst r λ bx=>K bx hp)->o.wp P a w (zqN cx β hp w (SW W) a K) Q:=by
  intro hs
  obtain⟨r,h1,v,h2,h3⟩:=Kb hT hI hf hs
  obtain⟨bx,h4,h5,h6⟩:=dK h1 hf h2
  unfold lp
  rw[h3 w rfl]
  exact⟨bx,hp,β,h4,h5,h6,Out.refl hI⟩
 have fresh:∀(x:HB) (v:aj) (e:En) (o':Obj) (r:Nat->AV),(Wa rsv hp x λ k bG=>qw fr o.dst (r k) λ bx=>K bx bG)->(bd a.eval o).run P w=.ok (.value v) (w.alloc o')->
   (∀b,ow x e=ab b->w.heap.size<=b)->(∀cT,Ext β cT->HOk cx cT (w.alloc o') x e)->(∀(k:Nat) cT,cT[k]?=ab e->AC cx cT (r k) v)->o.wp P a w (zqN cx β hp w (SW W) a K) Q:=by
  intro x v e o' r hn eB dY fc SB
  obtain⟨k,bG,cT,h1,h2,h3⟩:=Hm (S:=SW W) hI hn e hr (zh9 w o') dY fc
  obtain⟨bx,h4,h5,h6⟩:=dK h1 (hf.ext h3.ext) (SB k cT h2)
  unfold lp
  rw[eB]
  exact⟨bx,bG,cT,h4,h5,h6,h3⟩
 have kp:=hI.kp.size
 obtain⟨dst,op,ty,pos,after,guard⟩:=o
 have ins:∀t x y z,zrb T W fr hp t x y z (λ bG=>qw fr dst .j λ bx=>K bx bG)->∃w',(Instr.mapUpdate t (a.eval x) (a.eval y) (a.eval z)).run P w=.ok () w'/\∃bx bG cT,K bx bG/\FR cx cT bx (a.put dst undef).tmps/\(a.put dst undef).defers=a.defers/\Out cx β hp w (SW W) cT bG w':=by
  intro t x y z h
  obtain⟨ra,h1,h2⟩:=c7 hf h
  obtain⟨rb,h3,h4⟩:=c7 hf h1
  obtain⟨rc,h5,h6⟩:=c7 hf h3
  obtain⟨ti,h7,h8⟩:=eU.1 h5
  have nZ:=(hT t ti h7).kind
  split at h8
  ·rename_i hk
   rw[hk] at nZ
   split at h8
   ·rename_i k
    split at h8
    ·rename_i n
     split at h8
     ·rename_i v
      obtain⟨hm,h9⟩:=ba.1 h8
      obtain⟨X5,vc,Ju⟩:=iS.1 h9
      split at Ju
      ·rename_i Φ
       obtain⟨es,g1,g2,g3⟩:=Ju
       obtain⟨O0,g4⟩:=nq.1 g3
       obtain⟨_,b,hb,he⟩:=h2
       obtain⟨_,hi⟩:=h4
       obtain⟨_,hv⟩:=h6
       have ho:=hI.OZ k _ _ vc hb
       obtain⟨zeh,ob,hob,hΦ⟩:=ho
       obtain⟨o',O1,eB⟩:=znt (P:=P) nZ hob (g1 _ hΦ) (v:=v) g2
       have cj:b<w.heap.size:=(ah.1 hob).1
       have dY:ownB hp β k=ab b:=by rw[ownB_of vc hb];rfl
       have kW:Out cx β hp w (SW W) β (hp.set k (.x (SP (es++[(n,v)])))) { w with heap:=w.heap.setIfInBounds b o' }:=by
        refine Out.upd (k0:=k) (h':=.x (SP (es++[(n,v)]))) (e':=.b b) hI (uh.1 hm) ?_ (λ i hi=>⟨cd (dr hi),rfl⟩) (by simp[O0]) hb (by simp[hI.len]) (by simp) (Ext.refl _) ⟨zeh,o',by simp[cj],O1⟩ (λ b hb=>.inl (by rw[dY];exact hb))
        exact⟨rfl,rfl,rfl,by simp,λ c _ fh=>bt (λ e=>fh (by rw[dY,e])),λ c hc=>by
         by_cases e:c=b
         ·subst e
          obtain⟨_,_,_,h⟩:=hc
          have hm0:=g1 _ hΦ
          rw[h] at hob
          cases hob
          simp[SP] at hm0
         ·exact hc.same (bt (dr e))⟩
       obtain⟨bx,h15,h16,h17⟩:=dK (v:=undef) g4 hf trivial
       exact⟨_,by rw[he,hi,hv];exact eB,bx,_,β,h15,h16,h17,kW⟩
      ·exact Ju.elim
     ·exact h8.elim
    ·exact h8.elim
   ·exact h8.elim
  ·exact h8.elim
 cases op
 case insert t x y z=>
  obtain⟨w',h1,h2⟩:=ins t x y z h
  unfold lp
  rw[show (bd a.eval { dst:=dst,op:=.insert t x y z,type:=ty,pos:=pos,after:=after,guard:=guard }).run P w=.ok .skip w' by simp[bd,h1]]
  exact h2
 case mapUpdate t x y z=>
  obtain⟨w',h1,h2⟩:=ins t x y z h
  unfold lp
  rw[show (bd a.eval { dst:=dst,op:=.mapUpdate t x y z,type:=ty,pos:=pos,after:=after,guard:=guard }).run P w=.ok .skip w' by simp[bd,h1]]
  exact h2
 case makeMap t r=>
  obtain⟨ti,h1,h2⟩:=eU.1 h
  split at h2
  ·split at h2
   ·refine fresh _ (.map (ab w.heap.size)) (.b w.heap.size) (.map #[] 0) _ h2 ?_ (λ b hb=>?_) (λ cT hx=>⟨.inl kp,_,jZ w _,#[],0,rfl,rfl⟩) (λ k cT hk=>⟨rfl,_,hk,rfl⟩)
    ·simp[bd,Instr.makeMap,newObj]
     rfl
    ·simp only[ow,aF] at hb;omega
   ·exact h2.elim
  ·exact h2.elim
 case alloc t=>
  obtain⟨ti,h1,h2⟩:=eU.1 h
  have DD:=hT t ti h1
  obtain⟨z,hz,hrz⟩:=DD.PY
  refine fresh _ (.pointer (ab ⟨w.heap.size,0,ak⟩)) (.b w.heap.size) (.cells z.cells t) _ h2 ?_ (λ b hb=>?_) (λ cT hx=>⟨.inl kp,z.cells,jZ w _,by rw[hz];exact DD.zhB⟩) (λ k cT hk=>⟨rfl,_,hk,rfl⟩)
  ·simp[bd,Instr.alloc,hrz,newVar,yM]
  ·simp only[ow,aF] at hb;omega
 case box t x=>
  obtain⟨ra,h1,h2⟩:=c7 hf h
  obtain⟨vs,h3,h4⟩:=Fg h1 h2
  refine fresh _ (.pointer (ab ⟨w.heap.size,0,ak⟩)) (.b w.heap.size) (.cells (a.eval x).cells t) _ h3 ?_ (λ b hb=>?_) (λ cT hx=>⟨.inl kp,_,jZ w _,h4.ext hx⟩) (λ k cT hk=>⟨rfl,_,hk,rfl⟩)
  ·simp[bd,Instr.box,newVar,yM]
  ·simp only[ow,aF] at hb;omega
 case makeChan t n=>
  obtain⟨ti,h1,h2⟩:=eU.1 h
  have nZ:=(hT t ti h1).kind
  split at h2
  ·rename_i hk
   rw[hk] at nZ
   obtain⟨d,hd,h3⟩:=Option.bind_eq_some_iff.1 nZ
   split at h3
   ·rename_i dir e
    obtain⟨inf,MX,h4⟩:=aN.1 h3
    have hby:inf.bytes<=16:=by simpa using h4
    split at h2
    ·refine fresh _ (.chan (ab w.heap.size)) (.b w.heap.size) (.chan 1 #[] aa 0 0 aa) _ h2 ?_ (λ b hb=>?_) (λ cT hx=>⟨.inl kp,_,jZ w _,0,0,rfl⟩) (λ k cT hk=>⟨rfl,_,hk,rfl⟩)
     ·have h5:¬((inf.bytes:Int) > 281474976710544):=by omega
      have h6:IntKind.i64.max=9223372036854775807:=rfl
      simp[bd,Instr.makeChan,bX,asInt,asIntOf,bB hd,typeInfo,MX,newObj,h6,h5]
      rfl
     ·simp only[ow,aF] at hb;omega
    ·exact h2.elim
   ·cases h3
  ·exact h2.elim
 case buildSlice t n parts=>
  obtain⟨ti,h1,h2⟩:=eU.1 h
  have nZ:=(hT t ti h1).kind
  split at h2
  ·rename_i e jU ek hk
   rw[hk] at nZ
   obtain⟨k1,k2,k3,k4⟩:=nZ
   obtain⟨inf,MX,e1⟩:=aN.1 k2
   simp only[bz] at e1
   have hs:(P.info? e).map (·.size)=ab jU:=by rw[MX,cO,e1.2]
   obtain⟨zy1,h3⟩:=ba.1 h2
   have hle:n*jU<=16777216:=by simpa using zy1
   obtain⟨cs,h4,us,h5,h6,h7⟩:=Qt hf 0 n _ _ h3
   obtain⟨l,h8,h9,vc⟩:=zfh h4 h5
   have hsz:0<jU:=by rw[k4];cases ek<;>simp[EK.sz]
   have zq3:l.sz=jU:=by rw[vc,k4]
   have hlen:l.len=n:=by
    have:=l.GW
    rw[h9,h6,zq3] at this
    exact(Nat.eq_of_mul_eq_mul_right hsz this).symm
   have hz:∀w,(zeroValue e).run P w=.ok ek.zero w:=λ w=>by simp[zeroValue,typeInfo,MX,e1.1]
   have mk:∀zc:Array aj,∃lT:Array aj,Instr.fill (λ i=>ab (i*jU,jU)) ((iU (n*jU)).map (zc[· % zc.size]!)) (parts.toList.map λ x=>(x.1,a.eval x.2))=ab lT/\lT.toList=us:=by
    intro zc
    obtain⟨lT,c1,c2⟩:=h7 n ((iU (n*jU)).map (zc[· % zc.size]!)) (by omega) (by simp)
    exact⟨lT,c1,by rw[c2];simp⟩
   have eB:∃lT:Array aj,lT.toList=us/\(lE t n (parts.map λ x=>(x.1,a.eval x.2))).run P w=.ok (.slice (ab ⟨w.heap.size,0,ak⟩) n n) (w.alloc (.cells lT e)):=by
    by_cases h0:n*jU=0
    ·obtain⟨lT,c1,c2⟩:=mk #[]
     refine⟨lT,c2,?_⟩
     unfold lE
     rw[Sem.run_bind,bB k1,bc]
     dsimp only
     rw[Sem.run_bind,mN hs,bc,if_neg (by omega)]
     simp only[h0,if_true,Sem.run_bind,Sem.run_pure,bc,nT] at c1 ⊢
     rw[c1]
     simp[yM]
    ·obtain⟨lT,c1,c2⟩:=mk ek.zero.cells
     refine⟨lT,c2,?_⟩
     unfold lE
     rw[Sem.run_bind,bB k1,bc]
     dsimp only
     rw[Sem.run_bind,mN hs,bc,if_neg (by omega)]
     simp only[h0,if_false,Sem.run_bind,Sem.run_pure,bc,nT,hz] at c1 ⊢
     rw[c1]
     simp[yM]
   obtain⟨lT,c1,c2⟩:=eB
   refine fresh _ (.slice (ab ⟨w.heap.size,0,ak⟩) n n) (.r (.slice (ab ⟨w.heap.size,0,ak⟩) n n) 0) (.cells lT e) _ h8 ?_ (λ b hb=>?_) (λ cT hx=>⟨rfl,?_,?_⟩) (λ k cT hk=>⟨rfl,_,_,hk,aA _,λ _=>rfl⟩)
   ·simp only[bd]
    exact zhA c2
   ·simp only[ow,qf,aF] at hb;omega
   ·refine⟨l.GW,.inr ⟨w.heap.size,n,lT,by rw[hlen],kp,jZ w _,by omega,?_,?_,?_⟩⟩
    ·have:n<=n*jU:=yn n hsz
     unfold pR;omega
    ·rw[<-cA,c1,h6,zq3]
    ·rw[c1,h9,hlen,zq3,<-h6,List.take_length]
   ·have:n<=n*jU:=yn n hsz
    rw[hlen];unfold pM;omega
  ·exact h2.elim
 case makeSlice t n c=>
  obtain⟨ti,h1,h2⟩:=eU.1 h
  have nZ:=(hT t ti h1).kind
  split at h2
  ·rename_i e jU ek hk
   rw[hk] at nZ
   obtain⟨k1,k2,k3,k4⟩:=nZ
   obtain⟨inf,MX,e1⟩:=aN.1 k2
   simp only[bz] at e1
   split at h2
   ·obtain⟨ra,h3,h4⟩:=c7 hf h2
    split at h3
    ·rename_i m
     obtain⟨⟨m0,m1⟩,h5⟩:=ba.1 h3
     obtain⟨_,hc⟩:=h4
     obtain⟨q,rfl⟩:=gn m0
     have hby:inf.bytes<=32:=by
      rw[MX] at k3
      simpa using k3
     obtain⟨w',r1,r2,r3⟩:=run_make_own (P:=P) w cx.w0.heap.size t e inf _ jU k1 MX e1.1 e1.2 .i64 .i64 q (by
      have:inf.bytes*q<=32*q:=br _ hby
      omega) (by unfold pR;omega) kp
     have hb:cE w.heap.size w w':=⟨r3.os,r3.tape,r3.output,r3.size,λ k hk=>r3.block k hk (by simp)⟩
     obtain⟨k,bG,cT,g1,g2,g3⟩:=Hm (S:=SW W) hI h5 (.r (.slice (ab ⟨w.heap.size,0,ak⟩) 0 q) 0) hr hb (λ b hb=>by simp only[ow,qf,aF] at hb;omega) (λ cT hx=>⟨rfl,by
      rw[k4] at r2
      cases ek<;>exact r2,by cases ek<;>exact bw _⟩)
     obtain⟨bx,g4,g5,g6⟩:=dK (v:=.slice (ab ⟨w.heap.size,0,ak⟩) 0 q) g1 (hf.ext g3.ext) ⟨rfl,_,_,g2,aA _,λ _=>rfl⟩
     unfold lp
     have eB:(bd a.eval { dst:=dst,op:=.makeSlice t (.const (.int .i64 0)) c,type:=ty,pos:=pos,after:=after,guard:=guard }).run P w=.ok (.value (.slice (ab ⟨w.heap.size,0,ak⟩) 0 q)) w':=by
      simp only[bd,hc]
      exact zhA r1
     rw[eB]
     exact⟨bx,bG,cT,g4,g5,g6,g3⟩
    ·exact h3.elim
   ·rename_i y
    obtain⟨ra,h3,h4⟩:=c7 hf h2
    split at h3
    ·rename_i m
     obtain⟨rb,h6,h7⟩:=c7 hf h3
     split at h6
     ·rename_i m2
      obtain⟨⟨m0,m1⟩,h8⟩:=ba.1 h6
      obtain⟨hmm,h5⟩:=ba.1 h8
      subst hmm
      obtain⟨_,hc0⟩:=h4
      obtain⟨_,hc⟩:=h7
      obtain⟨q,rfl⟩:=gn m0
      have hby:inf.bytes<=32:=by
       rw[MX] at k3
       simpa using k3
      obtain⟨w',r1,r2,r3⟩:=run_make_full (P:=P) (w:=w) cx.w0.heap.size t e inf _ jU k1 MX e1.1 e1.2 .i64 .i64 q (by
       have:inf.bytes*q<=32*q:=br _ hby
       omega) (by unfold pR;omega) kp
      have hb:cE w.heap.size w w':=⟨r3.os,r3.tape,r3.output,r3.size,λ k hk=>r3.block k hk (by simp)⟩
      obtain⟨k,bG,cT,g1,g2,g3⟩:=Hm (S:=SW W) hI h5 (.r (.slice (ab ⟨w.heap.size,0,ak⟩) q q) 0) hr hb (λ b hb=>by simp only[ow,qf,aF] at hb;omega) (λ cT hx=>by
       obtain⟨z1,z2,z3⟩:=zji ek q
       refine⟨rfl,?_,by rw[je,z2];unfold pM;omega⟩
       rw[je,z1,z2,z3,<-k4]
       exact r2)
      obtain⟨bx,g4,g5,g6⟩:=dK (v:=.slice (ab ⟨w.heap.size,0,ak⟩) q q) g1 (hf.ext g3.ext) ⟨rfl,_,_,g2,aA _,λ _=>rfl⟩
      unfold lp
      have eB:(bd a.eval { dst:=dst,op:=.makeSlice t (.tmp y) c,type:=ty,pos:=pos,after:=after,guard:=guard }).run P w=.ok (.value (.slice (ab ⟨w.heap.size,0,ak⟩) q q)) w':=by
       simp only[bd,hc,hc0]
       exact zhA r1
      rw[eB]
      exact⟨bx,bG,cT,g4,g5,g6,g3⟩
     ·exact h6.elim
    ·exact h3.elim
   ·exact h2.elim
  ·exact h2.elim
 case store t x y=>
  obtain⟨ra,h1,h2⟩:=c7 hf h
  obtain⟨rb,h3,h4⟩:=c7 hf h1
  obtain⟨vs,h5,h6⟩:=Fg h3 h4
  obtain⟨ti,h7,h8⟩:=eU.1 h5
  obtain⟨hlen,h9⟩:=Bb.1 h8
  have DD:=hT t ti h7
  split at h9
  ·rename_i k off
   obtain⟨hm,vc⟩:=ba.1 h9
   obtain⟨X5,Ju,Yd⟩:=iS.1 vc
   split at Yd
   ·rename_i cs T'
    obtain⟨hle,h13⟩:=J6.1 Yd
    obtain⟨O0,h14⟩:=nq.1 h13
    obtain⟨_,n,hn,he⟩:=h2
    have ho:=hI.OZ k _ _ Ju hn
    obtain⟨zeh,us,hb,hc⟩:=ho
    have hsz:(a.eval y).cells.size=ti.sz:=by rw[<-hlen,h6.length];simp
    have X6:cs.length=us.size:=by rw[hc.length];simp
    have eB:=run_storeCells_at (P:=P) n off T' (a.eval y).cells.toList 0 us w hb (by rw[ey,cA,hsz,<-hlen,<-X6];exact hle) (λ v hv=>h6.one v hv)
    simp only[ey,cA] at eB
    generalize MY:(us.toList.take off++(a.eval y).cells.toList++us.toList.drop (off+(a.eval y).cells.size)).toArray=new at eB
    have zvF:jP cx β (cs.take off++vs++cs.drop (off+vs.length)) new.toList:=by
     rw[<-MY]
     simp only[dN]
     rw[hsz,<-hlen]
     exact jP.append (hc.take off) (jP.append h6 (hc.drop _))
    have hkb:k < β.length:=by rw[hI.len];exact O0
    have dY:ownB hp β k=ab n:=by rw[ownB_of Ju hn];rfl
    have kW:Out cx β hp w (SW W) β (hp.set k (.b (cs.take off++vs++cs.drop (off+vs.length)) T')) (w.setRow n new):=by
     refine Out.upd (k0:=k) (h':=.b (cs.take off++vs++cs.drop (off+vs.length)) T') (e':=.b n) hI (uh.1 hm) ?_ (λ i hi=>⟨cd (dr hi),rfl⟩) (by simp[O0]) hn (by simp[hI.len]) (by simp) (Ext.refl _) ⟨zeh,new,Bt w n us new T' _ hb,zvF⟩ (λ b hb=>.inl (by rw[dY];exact hb))
     exact⟨rfl,rfl,rfl,by simp,λ b _ fh=>zC w n b new (λ e=>fh (by rw[dY,e])),λ c hc=>by
      by_cases e:c=n
      ·subst e;exact⟨_,_,_,Bt w _ us new T' _ hb⟩
      ·exact hc.same (zC w n c new e)⟩
    obtain⟨bx,h15,h16,h17⟩:=dK (v:=undef) h14 hf trivial
    unfold lp
    have dz:(bd a.eval { dst:=dst,op:=.store t x y,type:=ty,pos:=pos,after:=after,guard:=guard }).run P w=.ok .skip (w.setRow n new):=by
     simp only[bd,he,lf,bZ]
     simp[storeVar,mN DD.size,hsz,eB]
    rw[dz]
    exact⟨bx,_,β,h15,h16,h17,kW⟩
   ·exact Yd.elim
  ·rename_i k eC sz i off
   obtain⟨hm,vc⟩:=ba.1 h9
   obtain⟨E,l,Ju,Yd⟩:=eV vc
   obtain⟨hbz,zyV⟩:=ba.1 Yd
   have zaR:sz=l.sz:=bf hbz
   obtain⟨cj,zyW⟩:=ba.1 zyV
   obtain⟨l',h13,hll,hls,hle,hen⟩:=zbY h6 cj zyW
   obtain⟨O0,h14⟩:=nq.1 h13
   obtain⟨v1,r2,r3,r4⟩:=lq hI Ju
   obtain⟨g1,n1,c1,hv,he⟩:=zg6 (cx:=cx) h2 r2
   subst hv
   have hn:n1=l.len:=kN (oZ r3 (EL.tP _))
   subst hn
   have hsz:(a.eval y).cells.size=ti.sz:=by rw[<-hlen,h6.length];simp
   have zy2:i*l.sz+off+(a.eval y).cells.toList.length<=l.len*l.sz:=by
    have h1:(i+1)*l.sz<=l.len*l.sz:=br _ cj
    have h2:vs.length=(a.eval y).cells.toList.length:=h6.length
    rw[gj] at h1
    omega
   obtain⟨cur,hb,hcs,GI⟩:=zbO r3 zy2
   have eB:=run_storeCells_at (P:=P) g1 (i*l.sz+off) E (a.eval y).cells.toList 0 cur w hb (by rw[ey];exact hcs) (λ v hv=>h6.one v hv)
   simp only[ey,cA] at eB
   generalize MY:(cur.toList.take (i*l.sz+off)++(a.eval y).cells.toList++cur.toList.drop (i*l.sz+off+(a.eval y).cells.size)).toArray=new at eB
   have dY:ownB hp β k=ab g1:=by rw[ownB_of Ju r2];rfl
   have kW:Out cx β hp w (SW W) β (hp.set k (.r eC E l')) (w.setRow g1 new):=by
    refine Out.upd (k0:=k) (h':=.r eC E l') (e':=.r (.slice (ab ⟨g1,0,ak⟩) l.len c1) eC) hI (uh.1 hm) ?_ (λ i hi=>⟨cd (dr hi),rfl⟩) (by simp[O0]) r2 (by simp[hI.len]) (by simp) (Ext.refl _) ⟨rfl,?_,by rw[hll];exact r4⟩ (λ b hb=>.inl (by rw[dY];exact hb))
    ·exact⟨rfl,rfl,rfl,by simp,λ b _ fh=>zC w g1 b new (λ e=>fh (by rw[dY,e])),λ c hc=>by
      by_cases e:c=g1
      ·subst e;exact⟨_,_,_,Bt w _ cur new E _ hb⟩
      ·exact hc.same (zC w g1 c new e)⟩
    ·rw[hll,hls,hen]
     refine GI _ ?_
     rw[Bt w g1 cur new E _ hb,<-MY,cA]
   obtain⟨bx,h15,h16,h17⟩:=dK (v:=undef) h14 hf trivial
   unfold lp
   have dz:(bd a.eval { dst:=dst,op:=.store t x y,type:=ty,pos:=pos,after:=after,guard:=guard }).run P w=.ok .skip (w.setRow g1 new):=by
    simp only[bd,he,lf,bZ]
    subst zaR
    simp[storeVar,mN DD.size,hsz,eB]
   rw[dz]
   exact⟨bx,_,β,h15,h16,h17,kW⟩
  ·exact h9.elim
 case call c=>
  obtain⟨callee,args,qv⟩:=c
  cases callee
  case value f=>
   cases f
   case const=>exact soft h
   case global=>exact soft h
   case tmp d=>
    obtain⟨x0,g1,g2⟩:=pW.1 h
    split at g2
    ·rename_i f us0 vs0
     obtain⟨hu0,g3⟩:=ba.1 g2
     obtain⟨hv0,g4⟩:=ba.1 g3
     obtain⟨c',hc,h1⟩:=PF g4
     obtain⟨rs,h2,h3⟩:=rS hf h1
     obtain⟨AI,h4⟩:=ba.1 h2
     have fc:=hG.1 f c' hc
     have DJ:=fc.snd rs hp _ h4 cx β w (args.map a.eval) hI (hG.gl hc) (by simpa using h3)
     have hval:a.eval (.tmp d)=.func (.func f) #[] #[]:=by
      obtain⟨_,e⟩:=hf.2 d _ g1
      rw[hu0,hv0] at e
      exact e
     unfold lp
     have eB:(bd a.eval { dst:=dst,op:=.call { callee:=.value (.tmp d),args:=args,argTypes:=qv },type:=ty,pos:=pos,after:=after,guard:=guard }).run P w=.ok (.enter f (args.map a.eval)) w:=by
      simp[bd,resolve,hval,iC,invoke,qd fc.fn]
     rw[eB]
     refine cR DJ ?_
     rintro e w' ⟨v,r,bG,cT,rfl,hk,hr',kW⟩
     obtain⟨bx,g1,g2,g3⟩:=dK hk (hf.ext kW.ext) hr'
     exact⟨bx,bG,cT,g1,g2,g3,kW.mono λ k hk=>vI AI k hk⟩
    ·exact g2.elim
   case func f=>
   obtain⟨c',hc,h1⟩:=PF h
   obtain⟨rs,h2,h3⟩:=rS hf h1
   obtain⟨AI,h4⟩:=ba.1 h2
   have fc:=hG.1 f c' hc
   have DJ:=fc.snd rs hp _ h4 cx β w (args.map a.eval) hI (hG.gl hc) (by simpa using h3)
   unfold lp
   have eB:(bd a.eval { dst:=dst,op:=.call { callee:=.value (.func f),args:=args,argTypes:=qv },type:=ty,pos:=pos,after:=after,guard:=guard }).run P w=.ok (.enter f (args.map a.eval)) w:=by
    simp[bd,resolve,bX,iC,invoke,qd fc.fn]
   rw[eB]
   refine cR DJ ?_
   rintro e w' ⟨v,r,bG,cT,rfl,hk,hr',kW⟩
   obtain⟨bx,g1,g2,g3⟩:=dK hk (hf.ext kW.ext) hr'
   exact⟨bx,bG,cT,g1,g2,g3,kW.mono λ k hk=>vI AI k hk⟩
  case invoke rv name=>
   obtain⟨ra,h1,hra⟩:=c7 hf h
   split at h1
   ·rename_i t k
    obtain⟨ti,ht,h2⟩:=eU.1 h1
    have DD:=hT t ti ht
    obtain⟨f,p,hm,h3⟩:=Vd h2
    obtain⟨c',hc,h4⟩:=PF h3
    obtain⟨rs,h5,h6⟩:=rS hf h4
    have fc:=hG.1 f c' hc
    obtain⟨_,n,hn,he⟩:=hra
    have he:a.eval rv=.iface t (.pointer (ab ⟨n,0,ak⟩)):=he
    have zoZ:=DD.zzA (name,f,p) hm n w
    cases p
    case true=>
     obtain⟨AI,h7⟩:=ba.1 h5
     have DJ:=fc.snd (.l (.p k 0)::rs) hp _ h7 cx β w (#[.pointer (ab ⟨n,0,ak⟩)]++args.map a.eval) hI (hG.gl hc) (by simpa using ⟨⟨rfl,n,hn,rfl⟩,h6⟩)
     unfold lp
     have eB:(bd a.eval { dst:=dst,op:=.call { callee:=.invoke rv name,args:=args,argTypes:=qv },type:=ty,pos:=pos,after:=after,guard:=guard }).run P w=.ok (.enter f (#[.pointer (ab ⟨n,0,ak⟩)]++args.map a.eval)) w:=by
      exact Qy he (zoZ.1 rfl) (qd fc.fn _ _)
     rw[eB]
     refine cR DJ ?_
     rintro e w' ⟨v,r,bG,cT,rfl,hk,hr',kW⟩
     obtain⟨bx,g1,g2,g3⟩:=dK hk (hf.ext kW.ext) hr'
     exact⟨bx,bG,cT,g1,g2,g3,kW.mono λ k hk=>vI AI k hk⟩
    case false=>
     dsimp only at h5
     split at h5
     ·rename_i e hk
      obtain⟨ei,hei,h7⟩:=eU.1 h5
      obtain⟨_,h8⟩:=ba.1 h7
      obtain⟨hb,h9,vc⟩:=iS.1 h8
      split at vc
      ·rename_i cs T1
       obtain⟨x,v,Ju,Yd,h13⟩:=ziU (hT e ei hei) hI h9 hn vc
       obtain⟨AI,h14⟩:=ba.1 Ju
       have DJ:=fc.snd (x::rs) hp _ h14 cx β w (#[v]++args.map a.eval) hI (hG.gl hc) (by simpa using ⟨Yd,h6⟩)
       unfold lp
       have eB:(bd a.eval { dst:=dst,op:=.call { callee:=.invoke rv name,args:=args,argTypes:=qv },type:=ty,pos:=pos,after:=after,guard:=guard }).run P w=.ok (.enter f (#[v]++args.map a.eval)) w:=by
        exact Qy he ((zoZ.2 rfl e hk).trans (by simp[h13])) (qd fc.fn _ _)
       rw[eB]
       refine cR DJ ?_
       rintro e w' ⟨v,r,bG,cT,rfl,hk,hr',kW⟩
       obtain⟨bx,g1,g2,g3⟩:=dK hk (hf.ext kW.ext) hr'
       exact⟨bx,bG,cT,g1,g2,g3,kW.mono λ k hk=>vI AI k hk⟩
      ·exact vc.elim
     ·exact h5.elim
   ·exact h1.elim
  case builtin bb=>
   cases bb<;>first|exact soft h|skip
   change (match args.toList with
    |[x,y]=>_
    |_=>False) at h
   split at h
   ·rename_i x y hargs
    split at h
    ·rename_i t t2 iZ
     obtain⟨ti,h1,h2⟩:=eU.1 h
     have nZ:=(hT t ti h1).kind
     split at h2
     ·rename_i e jU ek hk
      rw[hk] at nZ
      obtain⟨k1,k2,k3,k4⟩:=nZ
      obtain⟨inf,MX,e1⟩:=aN.1 k2
      simp only[bz] at e1
      obtain⟨ht2,h2'⟩:=ba.1 h2
      have htt:t=t2:=bf ht2
      subst htt
      obtain⟨ra,h3,h4⟩:=c7 hf h2'
      obtain⟨rb,h5,h6⟩:=c7 hf h3
      obtain⟨m,h7',h8,h9⟩:=Vl hI h6 h5
      obtain⟨hmz,h7⟩:=ba.1 h7'
      have hms:jU=m.sz:=bf hmz
      have ho:args=#[x,y]:=bk.1 hargs
      have zqY:qv=#[t,t]:=bk.1 iZ
      subst ho zqY
      have hby:inf.bytes<=32:=by
       rw[MX] at k3
       simpa using k3
      have zoX:(P.info? e).map (λ i=>(i.zero,i.size,i.bytes))=ab (ab ek.zero,jU,inf.bytes):=by rw[MX,cO,e1.1,e1.2]
      have hzs:ek.zero.cells.size=jU:=by rw[k4];cases ek<;>rfl
      have V4:0<jU:=by rw[k4];cases ek<;>simp[EK.sz]
      rw[<-hms] at h8
      clear h h2 h2' h3 h5 h7'
      split at h7
      ·rename_i k eC
       obtain⟨hm,g1⟩:=ba.1 h7
       obtain⟨E,l,g2,g3⟩:=eV g1
       obtain⟨hE,g4⟩:=ba.1 g3
       obtain⟨hle,g5⟩:=ba.1 g4
       have hEe:E=e:=bf hE
       subst hEe
       obtain⟨l',g6,g7,g8,g9,g10⟩:=zh6 g5
       obtain⟨O0,g11⟩:=nq.1 g6
       obtain⟨v1,r2,r3,r4⟩:=lq hI g2
       have hv:=LO (cx:=cx) h4 r2
       have hlz:l.sz=jU:=by rw[<-g10,hms]
       rw[hlz] at r3
       have hlm:l.len+m.len<=1099511627776:=hle
       refine zF x y t rfl cx.w0.heap.size E ek.zero jU inf.bytes k1 zoX hzs V4 v1 l.len l.enc hv r3 (a.eval y) m.len m.enc rfl h8 m.one (by unfold pR;omega) ?_ kp ?_
       ·have:(l.len+m.len)*inf.bytes<=(l.len+m.len)*32:=og _ hby
        omega
       ·intro v' w' q1 q2 q3 q4
        have hkb:k < β.length:=by rw[hI.len];exact O0
        have dY:ownB hp β k=v1.ownBlock:=by rw[ownB_of g2 r2];rfl
        have hx:Ext β (β.set k (.r v' (eC+1))):=by
         intro i e0 hie
         by_cases hik:i=k
         ·subst hik
          rw[r2] at hie
          obtain rfl:=fS hie
          exact⟨v',eC+1,by simp[hkb],by omega,λ e=>by omega⟩
         ·have me:(β.set k (.r v' (eC+1)))[i]?=ab e0:=by rw[cd (dr hik)];exact hie
          cases e0 with
          |b n=>exact me
          |r v eC=>exact⟨v,eC,me,aA _,λ _=>rfl⟩
          |x=>trivial
        have kW:Out cx β hp w (SW W) (β.set k (.r v' (eC+1))) (hp.set k (.r (eC+1) E l')) w':=by
         refine Out.upd (k0:=k) (h':=.r (eC+1) E l') (e':=.r v' (eC+1)) hI (uh.1 hm) ?_ (λ i hi=>⟨cd (dr hi),cd (dr hi)⟩) (by simp[O0]) (by simp[hkb]) (by simp[hI.len]) (by simp) hx ⟨rfl,by rw[g8,g7,g9,hlz];exact q1,by rw[g8];exact hle⟩ (λ b hb=>?_)
         ·rw[dY];exact(wa.zi1 q2 q4)
         ·rw[dY]
          rcases q3 with q3|q3
          ·exact .inl (q3▸hb)
          ·have:ab w.heap.size=ab b:=q3▸hb
           simp only[aF] at this
           omega
        have Ys:v'.oneCell'=ae:=by obtain⟨_,_,rfl⟩:=xG q1;rfl
        obtain⟨bx,g12,g13,g14⟩:=dK (v:=v') g11 (hf.ext hx) ⟨Ys,v',eC+1,by simp[hkb],aA _,λ _=>rfl⟩
        exact⟨bx,_,_,g12,g13,g14,kW⟩
      ·obtain⟨_,hv⟩:=h4
       refine zcj x y t rfl w.heap.size e ek.zero jU inf.bytes k1 zoX hzs (.slice ak 0 0) hv (.inl rfl) (a.eval y) m.len m.enc rfl h8 (by have:m.len<=1099511627776:=h9;unfold pR;omega) ?_ (aA _) ?_
       ·have:m.len*inf.bytes<=m.len*32:=og _ hby
        have:m.len<=1099511627776:=h9
        omega
       ·intro v' w' q1 q2
        obtain⟨k,bG,cT,p1,p2,p3⟩:=Hm (S:=SW W) (rsv:=ak) hI h7 (.r v' 0) (λ k hk=>hr k (hk.elim (λ e=>by cases e) .inr)) q2 (λ b hb=>(q1.lt b hb).1) (λ cT hx=>⟨rfl,by rw[<-hms];exact CV q1 kp,h9⟩)
        have Ys:v'.oneCell'=ae:=by obtain⟨_,_,rfl⟩:=xG q1;rfl
        obtain⟨bx,p4,p5,p6⟩:=dK (v:=v') p1 (hf.ext p3.ext) ⟨Ys,v',0,p2,aA _,λ _=>rfl⟩
        exact⟨bx,bG,cT,p4,p5,p6,p3⟩
      ·exact h7.elim
     ·exact h2.elim
    ·exact h.elim
   ·exact h.elim
 all_goals exact soft h
end
end Ab
open Go.RowKit
namespace Ab
structure Lk(β0:List En)(hp0:Hp)(w0:ai)(β:List En)(hp:Hp)(w:ai):Prop where
 ext:∀k e,k<hp0.length->β0[k]?=ab e->match e with
  |.b n=>β[k]?=ab (.b n)
  |.r v eC=>∃v' nh,β[k]?=ab (.r v' nh)/\eC<=nh/\(eC=nh->v'=v)
  |.x=>True
 om:∀k b,ownB hp β k=ab b->(k<hp0.length/\ownB hp0 β0 k=ab b)\/w0.heap.size<=b
 size:w0.heap.size<=w.heap.size
 len:hp0.length<=hp.length
 C4:∀b,b<w0.heap.size->(∀k,ownB hp0 β0 k≠ab b)->w.heap[b]?=w0.heap[b]?
section
variable{P:aG}{cx:Cx}{β:List En}{hp:Hp}{w:ai}{β0:List En}{hp0:Hp}{w0:ai}
theorem Lk.out{S:Nat->Prop}{cT:List En}{bG:Hp}{w':ai}(h:Lk β0 hp0 w0 β hp w)(ho:Out cx β hp w S cT bG w'):Lk β0 hp0 w0 cT bG w':=by
 refine⟨λ k e hk he=>?_,λ k b hb=>?_,bD h.size ho.size,bD h.len ho.len,λ b hb hn=>?_⟩
 rotate_left 2
 ·refine(ho.C4 b (aY hb h.size) λ k _ e=>?_).trans (h.C4 b hb hn)
  rcases h.om k b e with h1|h1
  ·exact hn k h1.2
  ·omega
 ·have h1:=h.ext k e hk he
  cases e with
  |b n=>exact ho.ext k _ h1
  |r v eC=>
   obtain⟨v',nh,h2,h3,h4⟩:=h1
   obtain⟨v2,Au,h5,h6,h7⟩:=ho.ext k _ h2
   exact⟨v2,Au,h5,bD h3 h6,λ e=>(h7 (by omega)).trans (h4 (by omega))⟩
  |x=>trivial
 ·rcases ho.om k b hb with h1|h1
  ·exact h.om k b h1
  ·exact .inr (bD h.size h1)
variable{ops:Array di}
theorem tD{fr:Fr}{a:Act}{o:di}{p q:Prop}(hf:FR cx β fr a.tmps)(h:UU ops.toList fr o p q):
  (aR o (yielded ops a.tmps)=ae/\p)\/(aR o (yielded ops a.tmps)=aa/\q):=by
 unfold UU at h
 unfold aR
 cases hg:o.guard with
 |none=>simp only[hg] at h;exact .inl ⟨rfl,h⟩
 |some x=>
  obtain⟨i,b⟩:=x
  simp only[hg] at h
  obtain⟨oi,h1,h2⟩:=Ba.1 h
  split at h2
  ·rename_i d hd
   obtain⟨x,h3,h4⟩:=pW.1 h2
   split at h4
   ·rename_i t
    have hx:=hf.2 d _ h3
    have cj:d<a.tmps.size:=by rw[<-hf.1];exact(aO.1 h3).1
    have hv:a.tmps[d]?=ab (.bool t):=by
     have:=hx.2
     simp only[qQ,cj,dif_pos] at this
     rw[bj cj]
     exact congrArg ab this
    have hy:yielded ops a.tmps i=ab t:=by
     unfold yielded
     have:ops[i]?=ab oi:=by simpa using h1
     simp[this,hd,hv]
    simp only[hy]
    cases b with
    |true=>
     dsimp only at h4
     rw[za3] at h4
     cases t with
     |true=>exact .inl ⟨rfl,h4⟩
     |false=>exact .inr ⟨rfl,h4⟩
    |false=>
     dsimp only at h4
     rw[za3] at h4
     cases t with
     |true=>exact .inr ⟨rfl,h4⟩
     |false=>exact .inl ⟨rfl,h4⟩
   ·have hx:=hf.2 d _ h3
    have cj:d<a.tmps.size:=by rw[<-hf.1];exact(aO.1 h3).1
    split at h4
    ·obtain⟨vs,hv,_⟩:=hx
     have hv:a.tmps[d]?=ab (.tuple vs):=by
      simp only[qQ,cj,dif_pos] at hv
      rw[bj cj]
      exact congrArg ab hv
     have hy:yielded ops a.tmps i=ak:=by
      unfold yielded
      have:ops[i]?=ab oi:=by simpa using h1
      simp[this,hd,hv]
     exact .inr ⟨by simp[hy],h4⟩
    ·exact h4.elim
   ·exact h4.elim
  ·exact h2.elim
def At(cx:Cx)(β0:List En)(hp0:Hp)(w0:ai)(d0:List eH)(fr:Fr)(hp:Hp)(a:Act)(w:ai):Prop:=∃β,Inv cx β hp w/\FR cx β fr a.tmps/\a.defers=d0/\Lk β0 hp0 w0 β hp w
theorem Zt{T:oU}{G:Env}(hT:jc P T)(hG:AN P G cx){Q:ni->Act->ai->Prop}{d0:List eH}{K:Fr->Hp->Prop}
  (hQ:∀fr hp a w,K fr hp->At cx β0 hp0 w0 d0 fr hp a w->Q .normal a w):∀(r:List di) (i:Nat) (fr:Fr) (hp:Hp) (a:Act) (w:ai),ops.toList.drop i=r->At cx β0 hp0 w0 d0 fr hp a w->SS T G ops.toList r fr hp K->
  wpOps P ops Q (List.range' i r.length) a w:=by
 intro r
 induction r with
 |nil=>intro i fr hp a w _ hA h;exact hQ fr hp a w h hA
 |cons o r ih=>
  intro i fr hp a w hd hA h
  have ho:ops[i]?=ab o:=by
   have:=congrArg (λ l=>l[0]?) hd
   simpa using this
  have hd':ops.toList.drop (i+1)=r:=by
   have:=congrArg List.tail hd
   simpa using this
  rw[List.length_cons,List.range'_succ,wpOps_cons]
  obtain⟨β,hI,hf,rI,hL⟩:=hA
  unfold wpOp
  simp only[ho]
  rcases tD hf h with⟨hw,h1⟩|⟨hw,h1⟩
  ·rw[if_pos hw]
   refine .inl (te ?_ (A9 (Q:=Q) (W:=ak) hT hG hI hf (λ _ _=>trivial) h1))
   rintro a' w' ⟨bx,bG,cT,hk,Cr,tF,kW⟩
   exact ih (i+1) bx bG a' w' hd' ⟨cT,kW.inv,Cr,tF.trans rI,hL.out kW⟩ hk
  ·rw[if_neg (by simp[hw])]
   obtain⟨bx,hk,Cr,tF⟩:=dK (v:=undef) h1 hf ⟨#[],rfl,trivial⟩
   exact ih (i+1) bx hp _ w hd' ⟨β,hI,Cr,tF.trans rI,hL⟩ hk
structure RI(n:Nat)(Wl:List Nat)(N0:Nat)(sB:List En)(ku:Hp)(β:List En)(hp:Hp)(w:ai):Prop where
 r1:∀k b,ownB hp β k=ab b->ownB ku sB k=ab b\/N0<=b
 r2:∀k,k<n->k∉Wl->ownB hp β k=ownB ku sB k
 size:N0<=w.heap.size
 len:n<=hp.length
def pOf(N0:Nat)(Wl:List Nat)(sB:List En)(ku:Hp)(b:Nat):Prop:=b<N0/\∀k∈Wl,ownB ku sB k≠ab b
theorem zfi{T:oU}{G:Env}(hT:jc P T)(hG:AN P G cx){Q:ni->Act->ai->Prop}{d0:List eH}{n:Nat}{Wl:List Nat}{sB:List En}{ku:Hp}{w1:ai}
  (Ye:Inv cx sB ku w1) (hn1:∀k,n<=k->ownB ku sB k=ak):
  ∀(t:Tr) (K:Fr->Hp->Prop) (fr:Fr) (hp:Hp) (β:List En) (a:Act) (w:ai),(∀fr hp a w,K fr hp->At cx β0 hp0 w0 d0 fr hp a w->Q .normal a w)->Inv cx β hp w->FR cx β fr a.tmps->a.defers=d0->Lk β0 hp0 w0 β hp w->RI n Wl w1.heap.size sB ku β hp w->
   rP T G ops.toList (n,Wl) n t fr hp K->Gl P ops (pOf w1.heap.size Wl sB ku) Q t a w:=by
 have late:∀(t:Tr) (K:Fr->Hp->Prop) (fr:Fr) (hp:Hp) (a:Act) (w:ai),(∀fr hp a w,K fr hp->At cx β0 hp0 w0 d0 fr hp a w->Q .normal a w)->At cx β0 hp0 w0 d0 fr hp a w->
   DK T G ops.toList (n,Wl) n t fr hp K->Gl P ops (pOf w1.heap.size Wl sB ku) Q t a w:=by
  intro t
  induction t with
  |nil=>intro K fr hp a w hQ hA h;exact hQ fr hp a w (zdm.1 h) hA
  |op i k t ih=>
   intro K fr hp a w hQ hA h
   match k,h with
   |0,h=>exact h.elim
   |1,h=>exact h.elim
   |k+2,h=>
    obtain⟨β,hI,hf,rI,hL⟩:=hA
    obtain⟨o,O1,h1⟩:=Ba.1 h
    have ho:ops[i]?=ab o:=by simpa using O1
    show wpOp P ops Q i _ a w
    unfold wpOp
    simp only[ho]
    rcases tD hf h1 with⟨hw,h2⟩|⟨hw,h2⟩
    ·rw[if_pos hw]
     refine .inl (te ?_ (A9 (Q:=Q) (W:=ak) hT hG hI hf (λ _ _=>trivial) (pX.1 h2)))
     rintro a' w' ⟨bx,bG,cT,hk,Cr,tF,kW⟩
     exact ih K bx bG a' w' hQ ⟨cT,kW.inv,Cr,tF.trans rI,hL.out kW⟩ hk
    ·rw[if_neg (by simp[hw])]
     obtain⟨bx,hk,Cr,tF⟩:=dK (v:=undef) h2 hf ⟨#[],rfl,trivial⟩
     exact ih K bx hp _ w hQ ⟨β,hI,Cr,tF.trans rI,hL⟩ hk
  |fork=>intro K fr hp a w hQ hA h;exact h.elim
 have zec:∀{β cT:List En} {hp bG:Hp} {w w':ai},RI n Wl w1.heap.size sB ku β hp w->Out cx β hp w (SW (ab (n,Wl))) cT bG w'->Ex (pOf w1.heap.size Wl sB ku) w w'/\RI n Wl w1.heap.size sB ku cT bG w':=by
  intro β cT hp bG w w' hR ho
  refine⟨⟨ho.size,λ b hp hb=>ho.C4 b hb λ k hk e=>?_⟩,λ k b hb=>?_,λ k hk hn=>?_,bD hR.size ho.size,bD hR.len ho.len⟩
  ·rcases hR.r1 k b e with h1|h1
   ·rcases hk with hk|hk
    ·exact hp.2 k hk h1
    ·rw[hn1 k hk] at h1;cases h1
   ·exact absurd hp.1 (by omega)
  ·rcases ho.om k b hb with h1|h1
   ·exact hR.r1 k b h1
   ·exact .inr (bD hR.size h1)
  ·rw[ho.own k (aY hk hR.len) (λ e=>e.elim hn (by omega))]
   exact hR.r2 k hk hn
 have hr:∀{hp:Hp} {j:Nat},n<=hp.length->∀k,(ab (n+j)=ab k\/hp.length<=k)->SW (ab (n,Wl)) k:=by
  intro hp j hl k hk
  refine .inr ?_
  rcases hk with hk|hk
  ·simp only[aF] at hk;omega
  ·omega
 have step1:∀(i:Nat) (t:Tr) (K:Fr->Hp->Prop) (fr:Fr) (hp:Hp) (β:List En) (a:Act) (w:ai),
   (∀(fr:Fr) (hp:Hp) (β:List En) (a:Act) (w:ai),Inv cx β hp w->FR cx β fr a.tmps->a.defers=d0->Lk β0 hp0 w0 β hp w->RI n Wl w1.heap.size sB ku β hp w->rP T G ops.toList (n,Wl) n t fr hp K->Gl P ops (pOf w1.heap.size Wl sB ku) Q t a w)->
   Inv cx β hp w->FR cx β fr a.tmps->a.defers=d0->Lk β0 hp0 w0 β hp w->RI n Wl w1.heap.size sB ku β hp w->(stepT T G ops.toList (n,Wl) n i 1 fr hp λ bx bG=>rP T G ops.toList (n,Wl) n t bx bG K)->
   wpOp P ops Q i (λ a' w'=>Ex (pOf w1.heap.size Wl sB ku) w w'/\Gl P ops (pOf w1.heap.size Wl sB ku) Q t a' w') a w:=by
  intro i t K fr hp β a w ih hI hf rI hL hR h
  obtain⟨o,O1,h1⟩:=Ba.1 h
  have ho:ops[i]?=ab o:=by simpa using O1
  unfold wpOp
  simp only[ho]
  rcases tD hf h1 with⟨hw,h2⟩|⟨hw,h2⟩
  ·rw[if_pos hw]
   refine .inl (te ?_ (A9 (Q:=Q) hT hG hI hf (hr hR.len) (pX.1 h2)))
   rintro a' w' ⟨bx,bG,cT,hk,Cr,tF,kW⟩
   obtain⟨e1,e2⟩:=zec hR kW
   exact⟨e1,ih bx bG cT a' w' kW.inv Cr (tF.trans rI) (hL.out kW) e2 hk⟩
  ·rw[if_neg (by simp[hw])]
   obtain⟨bx,hk,Cr,tF⟩:=dK (v:=undef) h2 hf ⟨#[],rfl,trivial⟩
   exact⟨Ex.refl _ _,ih bx hp β _ w hI Cr (tF.trans rI) hL hR hk⟩
 intro t
 induction t with
 |nil=>intro K fr hp β a w hQ hI hf rI hL hR h;exact hQ fr hp a w (zdm.1 h) ⟨β,hI,hf,rI,hL⟩
 |op i k t ih=>
  intro K fr hp β a w hQ hI hf rI hL hR h
  match k,h with
  |0,h=>
   obtain⟨o,O1,h1⟩:=Ba.1 h
   have ho:ops[i]?=ab o:=by simpa using O1
   rcases tD hf h1 with⟨hw,h2⟩|⟨hw,h2⟩
   ·obtain⟨r,h3,v,h4,h5⟩:=Kb hT hI hf h2
    obtain⟨bx,hk,Cr,tF⟩:=dK h3 hf h4
    refine⟨o,v,ho,.inl ⟨hw,λ w' hx=>h5 w' ?_⟩,ih K bx hp β _ w hQ hI Cr (tF.trans rI) hL hR hk⟩
    intro b hb
    rcases hb with⟨k,hk,hkW,hkb⟩|⟨sS,kU⟩
    ·have h6:ownB ku sB k=ab b:=by rw[<-hR.r2 k hk hkW];exact hkb
     refine hx.2 b ⟨(Ye.lt h6).1,λ k' nZ e=>?_⟩ (hI.lt hkb).1
     have:=Ye.dis k' k b e h6
     exact hkW (this▸nZ)
    ·have h7:b<w1.heap.size:=aY sS Ye.kp.size
     refine hx.2 b ⟨h7,λ k' nZ e=>?_⟩ (aY h7 hR.size)
     rcases (Ye.lt e).2 with h8|h8
     ·omega
     ·exact kU h8
   ·obtain⟨bx,hk,Cr,tF⟩:=dK (v:=undef) h2 hf ⟨#[],rfl,trivial⟩
    exact⟨o,undef,ho,.inr ⟨hw,rfl⟩,ih K bx hp β _ w hQ hI Cr (tF.trans rI) hL hR hk⟩
  |1,h=>exact step1 i t K fr hp β a w (λ fr hp β a w h1 h2 h3 h4 h5 h6=>ih K fr hp β a w hQ h1 h2 h3 h4 h5 h6) hI hf rI hL hR h
  |k+2,h=>
   obtain⟨o,O1,h1⟩:=Ba.1 h
   have ho:ops[i]?=ab o:=by simpa using O1
   show wpOp P ops Q i _ a w
   unfold wpOp
   simp only[ho]
   rcases tD hf h1 with⟨hw,h2⟩|⟨hw,h2⟩
   ·rw[if_pos hw]
    refine .inl (te ?_ (A9 (Q:=Q) (W:=ak) hT hG hI hf (λ _ _=>trivial) (pX.1 h2)))
    rintro a' w' ⟨bx,bG,cT,hk,Cr,tF,kW⟩
    exact late t K bx bG a' w' hQ ⟨cT,kW.inv,Cr,tF.trans rI,hL.out kW⟩ hk
   ·rw[if_neg (by simp[hw])]
    obtain⟨bx,hk,Cr,tF⟩:=dK (v:=undef) h2 hf ⟨#[],rfl,trivial⟩
    exact late t K bx hp _ w hQ ⟨β,hI,Cr,tF.trans rI,hL⟩ hk
 |fork i k t j l u iht ihu=>
  intro K fr hp β a w hQ hI hf rI hL hR h
  obtain⟨h1,h2⟩:=h
  exact⟨step1 i t K fr hp β a w (λ fr hp β a w h1 h2 h3 h4 h5 h6=>iht K fr hp β a w hQ h1 h2 h3 h4 h5 h6) hI hf rI hL hR h2,
   step1 j u K fr hp β a w (λ fr hp β a w h1 h2 h3 h4 h5 h6=>ihu K fr hp β a w hQ h1 h2 h3 h4 h5 h6) hI hf rI hL hR (h1 K h2)⟩
end
end Ab
open Go.RowKit
namespace Ab
section loops
variable{P:aG}{Q:ni->Act->ai->Prop}{a:Act}{w:ai}
def JG(P:aG)(Q:ni->Act->ai->Prop)(c:Code)(a:Act)(w:ai):Prop:=∀(b:Frame) (k:List Item) (cs:List Frame),∃e a' w',Q e a' w'/\Arrives P (lone (b.at a (.code c::.inLoop c::k)) cs w) b k cs e a' w'
variable{c:Code}
theorem zbK(h:JG P Q c a w):(Code.loop c).wp P Q a w:=by
 intro b k cs
 obtain⟨e,a',w',hq,sY⟩:=h b k cs
 exact⟨e,a',w',hq,.of_steps (.one step_loop) sY⟩
theorem zds(h:c.wp P (CK (λ a' w'=>JG P Q c a' w') Q) a w):JG P Q c a w:=by
 intro b k cs
 obtain⟨e,wj,aJ,hq,sY⟩:=h b (.inLoop c::k) cs
 cases e with
 |normal=>
  obtain⟨zyQ,zyM,ed,zvJ,zm2⟩:=hq b k cs
  exact⟨zyQ,zyM,ed,zvJ,.of_steps (Steps.trans sY (.one step_inLoop)) zm2⟩
 |exit id=>exact⟨_,wj,aJ,hq,.pass (x:=.inLoop c) rfl (λ _ _=>.inl (by simp)) sY⟩
 |goto l=>exact⟨_,wj,aJ,hq,.pass (x:=.inLoop c) rfl (λ _ _=>.inl (by simp)) sY⟩
 |ret=>exact⟨_,wj,aJ,hq,.pass (x:=.inLoop c) rfl (λ _ _=>.inl (by simp)) sY⟩
 |panic ch=>exact⟨_,wj,aJ,hq,.pass (x:=.inLoop c) rfl (λ _ _=>.inl (by simp)) sY⟩
 |outgrown=>exact⟨_,wj,aJ,hq,.pass (x:=.inLoop c) rfl (λ _ _=>.inl (by simp)) sY⟩
theorem Ke{σ:Type}(I:σ->Act->ai->Prop)(μ:σ->Nat)(x0:σ)(h0:I x0 a w)
  (round:∀x a w,I x a w->c.wp P (CK (λ a' w'=>∃x',I x' a' w'/\μ x' < μ x) Q) a w):JG P Q c a w:=by
 have key:∀n x a w,μ x=n->I x a w->JG P Q c a w:=by
  intro n
  induction n using Nat.strongRecOn with
  |_ n ih=>
   intro x a w hn hI
   refine zds (wp_mono (round x a w hI) ?_)
   intro e a' w' h
   cases e with
   |normal=>
    obtain⟨x',zha,cj⟩:=h
    exact ih (μ x') (hn▸cj) x' a' w' rfl zha
   |_=>exact h
 exact key _ x0 a w rfl h0
end loops
def Wq:AV->AV
 |.l x=>.l x
 |.a cs=>.a cs
 |.t _=>.j
 |.j=>.j
variable{fr:Fr}{K:Fr->Prop}
theorem zeA:YC fr K↔K (fr.map Wq):=by
 induction fr generalizing K with
 |nil=>simp[YC]
 |cons a r ih=>cases a<;>simp[YC,ih,Wq]
def zgT{α:Type}(l:List α)(k:Nat)(x:α):Option (List α):=if k<l.length then ab (l.set k x) else ak
def UL:List Nat->Fr->Option Fr
 |[],fr=>ab fr
 |k::r,fr=>(zgT fr k .j).bind (UL r)
def Pg{α:Type}:List (Nat×α)->List α->Option (List α)
 |[],fr=>ab fr
 |(k,x)::r,fr=>(zgT fr k x).bind (Pg r)
theorem zeQ{ws:List Nat}:YL ws fr K↔∃bx,UL ws fr=ab bx/\K bx:=by
 induction ws generalizing fr with
 |nil=>simp[YL,UL]
 |cons a r ih=>
  simp only[YL,UL,jY,zgT]
  by_cases h:a<fr.length<;>simp[h,ih]
theorem zko{u:List (Nat×AV)}:zgV u fr K↔∃bx,Pg u fr=ab bx/\K bx:=by
 induction u generalizing fr with
 |nil=>simp[zgV,Pg]
 |cons a r ih=>
  obtain⟨k,x⟩:=a
  simp only[zgV,Pg,jY,zgT]
  by_cases h:k<fr.length<;>simp[h,ih]
theorem zkp{u:List (Nat×HB)}{hp:Hp}{K:Hp->Prop}:zgW u hp K↔∃bG,Pg u hp=ab bG/\K bG:=by
 induction u generalizing hp with
 |nil=>simp[zgW,Pg]
 |cons a r ih=>
  obtain⟨k,x⟩:=a
  simp only[zgW,Pg,nq,zgT]
  by_cases h:k<hp.length<;>simp[h,ih]
def UI(ws:List Nat)(fr:Fr)(hp:Hp)(u:List (Nat×AV))(v:List (Nat×HB)):Option (Fr×Hp):=
 (UL ws (fr.map Wq)).bind λ fr1=>(Pg u fr1).bind λ EP=>(Pg v hp).map λ qC=>(EP,qC)
theorem kv{ws:List Nat}{hp:Hp}{u:List (Nat×AV)}{v:List (Nat×HB)}{K:Fr->Hp->Prop}:vn ws fr hp u v K↔∃ft ht,UI ws fr hp u v=ab (ft,ht)/\K ft ht:=by
 simp only[vn,zeA,zeQ,zko,zkp,UI]
 constructor
 ·rintro⟨fr1,h1,EP,h2,qC,h3,h4⟩
  exact⟨EP,qC,by simp[h1,h2,h3],h4⟩
 ·rintro⟨ft,ht,h1,h2⟩
  cases hk:UL ws (fr.map Wq) with
  |none=>rw[hk] at h1;cases h1
  |some fr1=>
   rw[hk] at h1
   simp only[lG] at h1
   cases hu:Pg u fr1 with
   |none=>rw[hu] at h1;cases h1
   |some EP=>
    rw[hu] at h1
    simp only[lG] at h1
    cases hv:Pg v hp with
    |none=>rw[hv] at h1;cases h1
    |some qC=>
     rw[hv] at h1
     simp only[cO,aF,bz] at h1
     obtain⟨rfl,rfl⟩:=h1
     exact⟨fr1,rfl,EP,hu,qC,rfl,h2⟩
section
variable{P:aG}{cx:Cx}{β:List En}{hp:Hp}{w:ai}{β0:List En}{hp0:Hp}{w0:ai}
theorem Bs:∀{l:List Nat},WA l=ae->∀(i j:Nat) (k:Nat),l[i]?=ab k->l[j]?=ab k->i=j
 |[],_,i,_,_,h,_=>by simp at h
 |a::l,h,i,j,k,h1,h2=>by
  simp only[WA,aE,Bool.not_eq_true'] at h
  have hn:a∉l:=λ e=>by rw[Hk.2 e] at h;cases h.1
  cases i with
  |zero=>cases j with
   |zero=>rfl
   |succ j=>
    simp at h1 h2;subst h1;exact absurd (kR h2) hn
  |succ i=>cases j with
   |zero=>simp at h1 h2;subst h2;exact absurd (kR h1) hn
   |succ j=>
    have:=Bs h.2 i j k (by simpa using h1) (by simpa using h2)
    omega
def enT(t:HB)(e:Option En):En:=match t,e with
 |.b _ _,ab (.b n)=>.b n
 |.r eC _ _,ab (.r v _)=>.r v eC
 |.x _,ab (.b n)=>.b n
 |_,_=>.x
def O6(β:List En):List HB->List Nat->List En
 |t::ts,k::ks=>enT t β[k]?::O6 β ts ks
 |_,_=>[]
variable{ρ:List Nat}
theorem tQ:∀{ht:List HB} {i k:Nat} {t:HB},ht.length=ρ.length->ht[i]?=ab t->ρ[i]?=ab k->(O6 β ht ρ)[i]?=ab (enT t β[k]?):=by
 induction ρ with
 |nil=>intro ht i k t _ _ h;simp at h
 |cons a r ih=>
  intro ht i k t hl h1 h2
  cases ht with
  |nil=>simp at hl
  |cons x xs=>
   cases i with
   |zero=>simp at h1 h2;subst h1;subst h2;rfl
   |succ i=>simpa [O6] using ih (by simpa using hl) (by simpa using h1) (by simpa using h2)
theorem zin:∀{ht:List HB},ht.length=ρ.length->(O6 β ht ρ).length=ht.length:=by
 induction ρ with
 |nil=>intro ht hl;cases ht<;>simp_all [O6]
 |cons a r ih=>
  intro ht hl
  cases ht with
  |nil=>simp at hl
  |cons x xs=>simp[O6,ih (ht:=xs) (by simpa using hl)]
theorem zey{ht hs:Hp}(hl:ht.length=ρ.length)(hI:Inv cx β hs w){t s:LV}{v:aj}(h:zd9 ρ ht hs t s)(hv:LC cx β s v):LC cx (O6 β ht ρ) t v:=by
 refine⟨hv.1,?_⟩
 cases t with
 |v x=>have e:LV.v x=s:=h;subst e;exact hv.2
 |f l=>have e:LV.f l=s:=h;subst e;exact hv.2
 |fx u l=>have e:LV.fx u l=s:=h;subst e;exact hv.2
 |j=>trivial
 |e=>exact h.elim
 |g=>exact h.elim
 |o T k=>
  cases s<;>first|exact h.elim|skip
  rename_i T' k'
  obtain⟨rfl,h1,h4⟩:=h
  obtain⟨_,n,h2,h3⟩:=hv
  obtain⟨x,h5,h6⟩:=iS.1 h4
  split at h6
  ·exact⟨n,by rw[tQ hl h5 h1,h2];rfl,h3⟩
  ·exact h6.elim
 |m k=>
  cases s<;>first|exact h.elim|skip
  rename_i k'
  obtain⟨h1,h4⟩:=h
  obtain⟨_,n,h2,h3⟩:=hv
  obtain⟨x,h5,h6⟩:=iS.1 h4
  split at h6
  ·exact⟨n,by rw[tQ hl h5 h1,h2];rfl,h3⟩
  ·exact h6.elim
 |p k off=>
  cases s<;>first|exact h.elim|skip
  rename_i k' MZ
  obtain⟨h1,rfl,h4⟩:=h
  obtain⟨_,n,h2,h3⟩:=hv
  obtain⟨x,h5,h6⟩:=iS.1 h4
  split at h6
  ·exact⟨n,by rw[tQ hl h5 h1,h2];rfl,h3⟩
  ·exact h6.elim
 |s k eC=>
  cases s<;>first|exact h.elim|skip
  rename_i k' nh
  obtain⟨h1,h2⟩:=h
  obtain⟨E,l,h3,h4⟩:=eV h2
  obtain⟨E',l',h5,_⟩:=eV h4
  obtain⟨v1,r2,r3,r4⟩:=lq hI h5
  have:=LO (cx:=cx) hv r2
  exact⟨v1,eC,by rw[tQ hl h3 h1,r2];rfl,aA _,λ _=>this⟩
 |w k eC sz i n=>
  cases s<;>first|exact h.elim|skip
  ·rename_i k' nh
   obtain⟨⟨h1,rfl⟩,h2⟩:=h
   obtain⟨E,l,h3,h4⟩:=eV h2
   obtain⟨E',l',h5,rfl,rfl⟩:=eV h4
   obtain⟨v1,r2,r3,r4⟩:=lq hI h5
   have:=LO (cx:=cx) hv r2
   subst this
   refine⟨v,eC,by rw[tQ hl h3 h1,r2];rfl,aA _,λ _=>?_⟩
   rcases r3.2 with⟨he,h0⟩|⟨g,cap,cur,he,hb,hg,h3,h4,h5,h6⟩
   ·exact⟨_,_,by rw[he,h0],⟨λ _=>rfl,λ ad e=>(by cases e)⟩,λ h=>by omega⟩
   ·exact⟨ab ⟨g,0,ak⟩,cap,he,⟨(λ e=>by cases e),λ ad e=>(by cases e;rw[he];rfl)⟩,λ _=>⟨g,_,_,he,by simp,by omega,by omega⟩⟩
  ·rename_i k' nh sz' i' n'
   obtain⟨⟨h1,rfl,rfl,rfl⟩,h2⟩:=h
   obtain⟨E,l,h3,h4⟩:=eV h2
   obtain⟨E',l',h5,_⟩:=eV h4
   obtain⟨v1,r2,r3,r4⟩:=lq hI h5
   have:=YR (cx:=cx) hv r2
   exact⟨v1,eC,by rw[tQ hl h3 h1,r2];rfl,aA _,λ _=>this⟩
theorem nF{ρ:List Nat}{ht hs:Hp}{cT:List En}(hc:∀t s v,zd9 ρ ht hs t s->LC cx β s v->LC cx cT t v):∀{ts ss:List LV} {vs:List aj} {p:Prop},LI ρ ht hs ts ss p->(p/\(jP cx β ss vs->jP cx cT ts vs))
 |[],[],[],_,h=>⟨h,λ _=>trivial⟩
 |[],[],_::_,_,h=>⟨h,λ h=>h.elim⟩
 |t::ts,s::ss,vs,p,h=>by
  have main:(LI ρ ht hs ts ss p)->(∀v,LC cx β s v->LC cx cT t v)->p/\(jP cx β (s::ss) vs->jP cx cT (t::ts) vs):=by
   intro h1 h2
   cases vs with
   |nil=>exact⟨(nF hc (vs:=[]) h1).1,λ h=>h.elim⟩
   |cons v vs=>
    obtain⟨h3,h4⟩:=nF hc (vs:=vs) h1
    exact⟨h3,λ h=>⟨h2 v h.1,h4 h.2⟩⟩
  unfold LI at h
  cases t with
  |j=>exact main h λ v hv=>⟨hv.1,trivial⟩
  |_=>obtain⟨h1,h2⟩:=ba.1 h;exact main h2 λ v hv=>hc _ _ _ h1 hv
 |[],_::_,_,_,h=>h.elim
 |_::_,[],_,_,h=>h.elim
theorem U2{ρ:List Nat}{ht hs:Hp}{cT:List En}(hc:∀t s v,zd9 ρ ht hs t s->LC cx β s v->LC cx cT t v):∀{ts ss:Fr} {p:Prop},zaJ ρ ht hs ts ss p->p/\ts.length=ss.length/\∀(i:Nat) t s v,ts[i]?=ab t->ss[i]?=ab s->AC cx β s v->AC cx cT t v
 |[],[],_,h=>⟨h,rfl,λ i t s v h1=>by simp at h1⟩
 |t::ts,s::ss,p,h=>by
  have main:zaJ ρ ht hs ts ss p->(∀v,AC cx β s v->AC cx cT t v)->p/\(t::ts).length=(s::ss).length/\∀(i:Nat) t' s' v,(t::ts)[i]?=ab t'->(s::ss)[i]?=ab s'->AC cx β s' v->AC cx cT t' v:=by
   intro h1 h2
   obtain⟨h3,h4,h5⟩:=U2 hc h1
   refine⟨h3,by simp[h4],λ i t' s' v g1 g2 g3=>?_⟩
   cases i with
   |zero=>
    simp only[bE,aF] at g1 g2
    subst g1 g2
    exact h2 v g3
   |succ i=>exact h5 i t' s' v (by simpa using g1) (by simpa using g2) g3
  unfold zaJ at h
  cases t with
  |j=>exact main h λ v _=>trivial
  |t=>exact h.elim
  |l x=>
   dsimp only at h
   split at h
   ·rename_i y
    have h1:=(nF (vs:=[]) hc h).1
    refine main h1 λ v hv=>?_
    have:=(nF (vs:=[v]) hc h).2 ⟨hv,trivial⟩
    exact this.1
   ·exact h.elim
  |a xs=>
   dsimp only at h
   split at h
   ·rename_i ys
    have h1:=(nF (vs:=[]) hc h).1
    refine main h1 λ v hv=>?_
    obtain⟨us,he,hu⟩:=hv
    exact⟨us,he,(nF hc h).2 hu⟩
   ·exact h.elim
 |[],_::_,_,h=>h.elim
 |_::_,[],_,h=>h.elim
theorem Qf{N:Nat}{ρ:List Nat}{ht hs:Hp}{cT:List En}(hI:Inv cx β hs w)(hc:∀t s v,zd9 ρ ht hs t s->LC cx β s v->LC cx cT t v):∀{i:Nat} {ts:List HB} {ks:List Nat} {p:Prop},Pj N ρ ht hs i ts ks p->
  p/\ts.length=ks.length/\∀(j:Nat) t k,ts[j]?=ab t->ks[j]?=ab k->HOk cx cT w t (enT t β[k]?)/\(∀b,ow t (enT t β[k]?)=ab b->ownB hs β k=ab b)/\(i+j<N->i+j=k/\∃e,β[k]?=ab e/\enT t β[k]?=e)
 |i,[],[],_,h=>⟨h,rfl,λ j t k h1=>by simp at h1⟩
 |i,t::ts,k::ks,p,h=>by
  obtain⟨s,hs1,h1⟩:=iS.1 h
  have O0:k < β.length:=by rw[hI.len];exact(aO.1 hs1).1
  have hb:β[k]?=ab β[k]:=aW O0
  have ho:=hI.OZ k _ _ hs1 hb
  have main:Pj N ρ ht hs (i+1) ts ks p->(HOk cx cT w t (enT t β[k]?)/\(∀b,ow t (enT t β[k]?)=ab b->ownB hs β k=ab b)/\(i<N->i=k/\∃e,β[k]?=ab e/\enT t β[k]?=e))->
    p/\(t::ts).length=(k::ks).length/\∀(j:Nat) t' k',(t::ts)[j]?=ab t'->(k::ks)[j]?=ab k'->HOk cx cT w t' (enT t' β[k']?)/\(∀b,ow t' (enT t' β[k']?)=ab b->ownB hs β k'=ab b)/\(i+j<N->i+j=k'/\∃e,β[k']?=ab e/\enT t' β[k']?=e):=by
   intro g1 g2
   obtain⟨g3,g4,g5⟩:=Qf hI hc g1
   refine⟨g3,by simp[g4],λ j t' k' e1 e2=>?_⟩
   cases j with
   |zero=>
    simp only[bE,aF] at e1 e2
    subst e1 e2
    exact g2
   |succ j=>
    have:=g5 j t' k' (by simpa using e1) (by simpa using e2)
    rw[show i+1+j=i+(j+1) by omega] at this
    exact this
  cases t with
  |x Φ=>
   dsimp only at h1
   split at h1
   ·rename_i Φ'
    obtain⟨g1,h2⟩:=ba.1 h1
    obtain⟨g2,h3⟩:=ba.1 h2
    refine main h3 ?_
    cases hx:β[k] with
    |b n=>
     rw[hx] at hb ho
     rw[hb]
     obtain⟨o1,ob,o2,o3⟩:=ho
     refine⟨⟨o1,ob,o2,g2 ob o3⟩,λ b Uy=>?_,λ hi=>?_⟩
     ·rw[ownB_of hs1 hb];exact Uy
     ·refine⟨?_,_,rfl,rfl⟩
      simp only[iv,Fb,y6] at g1
      omega
    |_=>rw[hx] at ho;exact ho.elim
   ·exact h1.elim
  |d=>
   obtain⟨g1,g2⟩:=ba.1 h1
   refine main g2 ⟨?_,λ b hb=>by simp[ow] at hb,λ hi=>?_⟩
   ·rw[hb];trivial
   ·have:N<=i:=by simpa using g1
    omega
  |b cs T=>
   dsimp only at h1
   split at h1
   ·rename_i kT T'
    obtain⟨g1,h2⟩:=ba.1 h1
    obtain⟨g2,h3⟩:=ba.1 h2
    have hT:T=T':=bf g2
    subst hT
    refine main (nF (vs:=[]) hc h3).1 ?_
    cases hx:β[k] with
    |b n=>
     rw[hx] at hb ho
     rw[hb]
     obtain⟨o1,us,o2,o3⟩:=ho
     refine⟨⟨o1,us,o2,(nF hc h3).2 o3⟩,λ b Uy=>?_,λ hi=>?_⟩
     ·rw[ownB_of hs1 hb];exact Uy
     ·refine⟨?_,_,rfl,rfl⟩
      simp only[iv,Fb,y6] at g1
      omega
    |_=>rw[hx] at ho;exact ho.elim
   ·exact h1.elim
  |r eC E l=>
   dsimp only at h1
   split at h1
   ·rename_i nh E' l'
    obtain⟨g1,h2⟩:=ba.1 h1
    obtain⟨g2,h3⟩:=ba.1 h2
    obtain⟨g3,h4⟩:=ba.1 h3
    have hE:E=E':=bf g2
    subst hE g3
    refine main h4 ?_
    cases hx:β[k] with
    |r v Au=>
     rw[hx] at hb ho
     rw[hb]
     obtain⟨o1,o2,o3⟩:=ho
     refine⟨⟨rfl,o2,o3⟩,λ b Uy=>?_,λ hi=>?_⟩
     ·rw[ownB_of hs1 hb];exact Uy
     ·simp only[iv,aE,Fb,y6] at g1
      refine⟨by omega,_,rfl,?_⟩
      show En.r v eC=En.r v Au
      have:eC=nh:=by omega
      rw[this,o1]
    |_=>rw[hx] at ho;exact ho.elim
   ·exact h1.elim
 |_,[],_::_,_,h=>h.elim
 |_,_::_,[],_,h=>h.elim
theorem A8{ft fs:Fr}{ht hs:Hp}{tmps:Array aj}(h:cov hp0.length ρ ft ht fs hs)(hI:Inv cx β hs w)(hf:FR cx β fs tmps)(hL:Lk β0 hp0 w0 β hs w):∃cT,Inv cx cT ht w/\FR cx cT ft tmps/\Lk β0 hp0 w0 cT ht w:=by
 obtain⟨hn,h1⟩:=ba.1 h
 simp only[aE,Fb,y6] at hn
 obtain⟨⟨hn1,hn2⟩,hn3⟩:=hn
 rw[Cy] at hn3
 have hc:∀t s v,zd9 ρ ht hs t s->LC cx β s v->LC cx (O6 β ht ρ) t v:=λ t s v=>zey hn3 hI
 obtain⟨h2,_,h3⟩:=Qf hI hc h1
 obtain⟨_,h4,h5⟩:=U2 hc h2
 have get:∀(j:Nat) t,ht[j]?=ab t->∃k,ρ[j]?=ab k/\(O6 β ht ρ)[j]?=ab (enT t β[k]?):=λ j t hj=>by
  have cj:j < ρ.length:=by rw[<-hn3];exact(aO.1 hj).1
  exact⟨ρ[j],aW cj,tQ hn3 hj (aW cj)⟩
 have own:∀(j:Nat) b,ownB ht (O6 β ht ρ) j=ab b->∃k,ρ[j]?=ab k/\ownB hs β k=ab b:=λ j b hb=>by
  obtain⟨t,e,g1,g2,g3⟩:=mB hb
  obtain⟨k,g4,g5⟩:=get j t g1
  rw[g2] at g5
  obtain rfl:=fS g5
  exact⟨k,g4,(h3 j t k g1 g4).2.1 b g3⟩
 refine⟨O6 β ht ρ,⟨hI.kp,zin hn3,λ j t e g1 g2=>?_,λ i j b g1 g2=>?_⟩,⟨h4.trans hf.1,λ i t hi=>?_⟩,⟨λ k e hk he=>?_,λ k b hb=>?_,hL.size,by rw[hn3];exact hn2,hL.C4⟩⟩
 ·obtain⟨k,g4,g5⟩:=get j t g1
  rw[g2] at g5
  obtain rfl:=fS g5
  exact(h3 j t k g1 g4).1
 ·obtain⟨k1,e1,e2⟩:=own i b g1
  obtain⟨k2,e3,e4⟩:=own j b g2
  have:=hI.dis k1 k2 b e2 e4
  subst this
  exact Bs hn1 i j k1 e1 e3
 ·have cj:i<fs.length:=by rw[<-h4];exact(aO.1 hi).1
  have hs':fs[i]?=ab fs[i]:=aW cj
  exact h5 i t _ _ hi hs' (hf.2 i _ hs')
 ·have hkt:k<ht.length:=by rw[hn3];omega
  obtain⟨q,g4,g5⟩:=get k _ (aW hkt)
  obtain⟨g6,e',g7,g8⟩:=(h3 k _ q (aW hkt) g4).2.2 (by omega)
  have g9:k=q:=by omega
  subst g9
  have hX:=hL.ext k e hk he
  rw[g8] at g5
  cases e with
  |b n=>rw[g5,<-g7];exact hX
  |r v eC=>
   obtain⟨v',nh,x1,x2⟩:=hX
   exact⟨v',nh,by rw[g5,<-g7];exact x1,x2⟩
  |x=>trivial
 ·obtain⟨q,g1,g2⟩:=own k b hb
  rcases hL.om q b g2 with⟨g3,g4⟩|g3
  ·have hq:q < ρ.length:=by omega
   have hqt:q<ht.length:=by omega
   have hρq:ρ[q]?=ab ρ[q]:=aW hq
   obtain⟨g6,_⟩:=(h3 q _ _ (aW hqt) hρq).2.2 (by omega)
   have g7:ρ[q]=q:=by omega
   rw[g7] at hρq
   have:=Bs hn1 k q q g1 hρq
   subst this
   exact .inl ⟨g3,g4⟩
  ·exact .inr g3
end
end Ab
open Go.RowKit
namespace Ab
def zec:Xt->ni
 |.n=>.normal
 |.x id=>.exit id
 |.r=>.ret
section
variable{P:aG}{cx:Cx}{β:List En}{hp:Hp}{w:ai}{β0:List En}{hp0:Hp}{w0:ai}
def Qn(Q:ni->Act->ai->Prop):ni->Act->ai->Prop
 |.normal,a,w=>Q .normal a w
 |_,_,_=>False
variable{fr:Fr}{a:Act}
theorem zhF{d0:List eH}(m:Nat)(hA:At cx β0 hp0 w0 d0 fr hp a w):At cx β0 hp0 w0 d0 fr (hp++aX m .d) a w:=by
 obtain⟨β,hI,hf,rI,hL⟩:=hA
 have Ye:Inv cx (β++aX m .x) (hp++aX m .d) w:=by
  refine⟨⟨hI.kp.os,hI.kp.tape,hI.kp.output,hI.kp.size,hI.kp.block,hI.kp.rows⟩,by simp[hI.len],λ k t e g1 g2=>?_,λ i j b g1 g2=>?_⟩
  ·by_cases hk:k<hp.length
   ·rw[aQ hk] at g1
    rw[aQ (by rw[hI.len];exact hk)] at g2
    refine(hI.OZ k t e g1 g2).keep ?_ (λ b hb=>rfl)
    intro k e he
    have cj:=(aO.1 he).1
    have me:(β++aX m En.x)[k]?=ab e:=by rw[aQ cj];exact he
    cases e with
    |b n=>exact me
    |r v eC=>exact⟨v,eC,me,aA _,λ _=>rfl⟩
    |x=>trivial
   ·rw[cX (by omega)] at g1
    rw[cX (by rw[hI.len];omega)] at g2
    simp only[de] at g1 g2
    split at g1<;>simp at g1
    split at g2<;>simp at g2
    subst g1 g2
    trivial
  ·have app:∀k b,ownB (hp++aX m .d) (β++aX m .x) k=ab b->ownB hp β k=ab b:=by
    intro k b hb
    obtain⟨x,e,e1,e2,e3⟩:=mB hb
    by_cases hk:k<hp.length
    ·rw[aQ hk] at e1
     rw[aQ (by rw[hI.len];exact hk)] at e2
     rw[ownB_of e1 e2];exact e3
    ·rw[cX (by omega)] at e1
     simp only[de] at e1
     split at e1<;>simp at e1
     subst e1
     simp[ow] at e3
   exact hI.dis i j b (app i b g1) (app j b g2)
 have hx1:Ext β (β++aX m .x):=by
  intro k e he
  have cj:=(aO.1 he).1
  have me:(β++aX m En.x)[k]?=ab e:=by rw[aQ cj];exact he
  cases e with
  |b n=>exact me
  |r v eC=>exact⟨v,eC,me,aA _,λ _=>rfl⟩
  |x=>trivial
 have dY:∀k,ownB (hp++aX m .d) (β++aX m .x) k=ownB hp β k:=by
  intro k
  by_cases hk:k<hp.length
  ·unfold ownB
   rw[aQ hk,aQ (by rw[hI.len];exact hk)]
  ·rw[tu (by simp;omega:hp[k]?=ak)]
   by_cases tl:k<hp.length+m
   ·have:(hp++aX m HB.d)[k]?=ab .d:=by
     rw[cX (by omega),de,if_pos (by omega)]
    exact zh2 this
   ·exact tu (by simp;omega)
 have hL1:Lk β0 hp0 w0 (β++aX m .x) (hp++aX m .d) w:=by
  refine⟨λ k e hk he=>?_,λ k b hb=>hL.om k b (by rw[<-dY];exact hb),hL.size,by have:=hL.len;simp;omega,hL.C4⟩
  have h1:=hL.ext k e hk he
  cases e with
  |b n=>exact hx1 k _ h1
  |r v eC=>
   obtain⟨v',nh,h2,h3,h4⟩:=h1
   obtain⟨v2,Au,h5,h6,h7⟩:=hx1 k _ h2
   exact⟨v2,Au,h5,bD h3 h6,λ e=>(h7 (by omega)).trans (h4 (by omega))⟩
  |x=>trivial
 exact⟨_,Ye,hf.ext hx1,rI,hL1⟩
theorem JX{T:oU}{G:Env}(hT:jc P T)(hG:AN P G cx)(hM:P.follows .mixedOrders=ae){W0:List Nat}{TR:Nat->Tr}{d0:List eH}:
  ∀(c:Code) (K:Xt->Fr->Hp->Prop) (Q:ni->Act->ai->Prop) (fr:Fr) (hp:Hp) (a:Act) (w:ai),(∀e fr hp a w,K e fr hp->At cx β0 hp0 w0 d0 fr hp a w->Q (zec e) a w)->
   At cx β0 hp0 w0 d0 fr hp a w->exec T G hp0.length W0 TR c fr hp K->c.wp P Q a w:=by
 intro c
 induction c with
 |skip=>intro K Q fr hp a w hQ hA h;exact wp_skip (hQ .n fr hp a w h hA)
 |region id ops draw=>
  intro K Q fr hp a w hQ hA h
  cases draw with
  |false=>
   refine wp_region ?_
   have:=Zt (β0:=β0) (hp0:=hp0) (w0:=w0) (cx:=cx) (d0:=d0) hT hG (Q:=Q) (K:=λ bx bG=>K .n bx bG) (λ fr hp a w hk hA=>hQ .n fr hp a w hk hA) ops.toList 0 fr hp a w rfl hA h
   rwa [List.range_eq_range',<-cA]
  |true=>
   obtain⟨fc,h1⟩:=ba.1 h
   simp only[zpa,aE,y6] at fc
   obtain⟨⟨⟨o1,o2⟩,o3⟩,o4⟩:=fc
   have h2:=pX.1 (PX.1 h1)
   have h3:=zeT.1 h2
   rw[Cy] at h3
   obtain⟨β,hI,hf,rI,hL⟩:=hA
   generalize hm:UN ops.toList ops.size=m at h3
   have Ye:Inv cx (β++aX m .x) (hp++aX m .d) w.drew:=by
    refine⟨⟨hI.kp.os,hI.kp.tape,hI.kp.output,hI.kp.size,hI.kp.block,hI.kp.rows⟩,by simp[hI.len],λ k t e g1 g2=>?_,λ i j b g1 g2=>?_⟩
    ·by_cases hk:k<hp.length
     ·rw[aQ hk] at g1
      rw[aQ (by rw[hI.len];exact hk)] at g2
      refine(hI.OZ k t e g1 g2).keep ?_ (λ b hb=>rfl)
      intro k e he
      have cj:=(aO.1 he).1
      have me:(β++aX m En.x)[k]?=ab e:=by rw[aQ cj];exact he
      cases e with
      |b n=>exact me
      |r v eC=>exact⟨v,eC,me,aA _,λ _=>rfl⟩
      |x=>trivial
     ·rw[cX (by omega)] at g1
      rw[cX (by rw[hI.len];omega)] at g2
      simp only[de] at g1 g2
      split at g1<;>simp at g1
      split at g2<;>simp at g2
      subst g1 g2
      trivial
    ·have app:∀k b,ownB (hp++aX m .d) (β++aX m .x) k=ab b->ownB hp β k=ab b:=by
      intro k b hb
      obtain⟨x,e,e1,e2,e3⟩:=mB hb
      by_cases hk:k<hp.length
      ·rw[aQ hk] at e1
       rw[aQ (by rw[hI.len];exact hk)] at e2
       rw[ownB_of e1 e2];exact e3
      ·rw[cX (by omega)] at e1
       simp only[de] at e1
       split at e1<;>simp at e1
       subst e1
       simp[ow] at e3
     exact hI.dis i j b (app i b g1) (app j b g2)
   have hx1:Ext β (β++aX m .x):=by
    intro k e he
    have cj:=(aO.1 he).1
    have me:(β++aX m En.x)[k]?=ab e:=by rw[aQ cj];exact he
    cases e with
    |b n=>exact me
    |r v eC=>exact⟨v,eC,me,aA _,λ _=>rfl⟩
    |x=>trivial
   have dY:∀k,ownB (hp++aX m .d) (β++aX m .x) k=ownB hp β k:=by
    intro k
    by_cases hk:k<hp.length
    ·unfold ownB
     rw[aQ hk,aQ (by rw[hI.len];exact hk)]
    ·rw[tu (by simp;omega:hp[k]?=ak)]
     by_cases tl:k<hp.length+m
     ·have:(hp++aX m HB.d)[k]?=ab .d:=by
       rw[cX (by omega),de,if_pos (by omega)]
      exact zh2 this
     ·exact tu (by simp;omega)
   have hL1:Lk β0 hp0 w0 (β++aX m .x) (hp++aX m .d) w.drew:=by
    refine⟨λ k e hk he=>?_,λ k b hb=>hL.om k b (by rw[<-dY];exact hb),hL.size,by have:=hL.len;simp;omega,hL.C4⟩
    have h1:=hL.ext k e hk he
    cases e with
    |b n=>exact hx1 k _ h1
    |r v eC=>
     obtain⟨v',nh,h2,h3,h4⟩:=h1
     obtain⟨v2,Au,h5,h6,h7⟩:=hx1 k _ h2
     exact⟨v2,Au,h5,bD h3 h6,λ e=>(h7 (by omega)).trans (h4 (by omega))⟩
    |x=>trivial
   have hn1:∀k,hp.length<=k->ownB (hp++aX m .d) (β++aX m .x) k=ak:=λ k hk=>by
    rw[dY];exact tu (by simp;omega)
   have hE:=zfi (β0:=β0) (hp0:=hp0) (w0:=w0) (d0:=d0) hT hG (ops:=ops) (Q:=Qn Q) (n:=hp.length) Ye hn1 (TR id) (λ bx bG=>K .n bx bG) fr _ _ a w.drew (λ fr hp a w hk hA=>hQ .n fr hp a w hk hA) Ye
    (hf.ext hx1) rI hL1 ⟨λ k b hb=>.inl hb,λ k _ _=>rfl,aA _,by simp⟩ h3
   refine wp_mono (jL (pOf w.drew.heap.size _ (β++aX m .x) (hp++aX m .d)) (TR id) hM o1 o2 o3 o4 (λ c a d v w hq=>hq.elim) hE) ?_
   intro e a w h
   cases e<;>first|exact h|exact h.elim
 |seq x y ihx ihy=>
  intro K Q fr hp a w hQ hA h
  refine wp_seq (ihx _ _ fr hp a w ?_ hA h)
  intro e bx bG a' w' hk u6
  cases e with
  |n=>exact ihy K Q bx bG a' w' hQ u6 hk
  |x id=>exact hQ (.x id) bx bG a' w' hk u6
  |r=>exact hQ .r bx bG a' w' hk u6
 |cond c x y ihx ihy=>
  intro K Q fr hp a w hQ hA h
  obtain⟨β,hI,hf,rI,hL⟩:=hA
  obtain⟨r,h1,h2⟩:=c7 hf h
  split at h1
  ·rename_i t
   rw[Pr] at h1
   exact wp_cond_split h2.2 (λ ht=>ihx K Q fr hp a w hQ ⟨β,hI,hf,rI,hL⟩ (h1.1 ht)) (λ ht=>ihy K Q fr hp a w hQ ⟨β,hI,hf,rI,hL⟩ (h1.2 ht))
  ·exact h1.elim
 |block id c ih=>
  intro K Q fr hp a w hQ hA h
  refine wp_block (ih _ _ fr hp a w ?_ hA h)
  intro e bx bG a' w' hk u6
  cases e with
  |n=>exact hQ .n bx bG a' w' hk u6
  |r=>exact hQ .r bx bG a' w' hk u6
  |x id'=>
   show (if id'=id then Q .normal a' w' else Q (.exit id') a' w')
   cases hb:cQ id' id with
   |true=>
    simp only[hb] at hk
    rw[if_pos (bf hb)]
    exact hQ .n bx bG a' w' hk u6
   |false=>
    simp only[hb] at hk
    rw[if_neg (λ e=>by rw[e] at hb;simp at hb)]
    exact hQ (.x id') bx bG a' w' hk u6
 |loop c ih=>
  intro K Q fr hp a w hQ hA h
  have key:∀(fr:Fr) (hp:Hp) (a:Act) (w:ai),At cx β0 hp0 w0 d0 fr hp a w->UC hp0.length (exec T G hp0.length W0 TR c) (wrs c) fr hp K->JG P Q c a w:=by
   intro fr hp a w hA h
   cases h with
   |it n h=>
    refine Ke (σ:=Nat) (λ n a w=>∃fr hp,At cx β0 hp0 w0 d0 fr hp a w/\YK (exec T G hp0.length W0 TR c) n fr hp K) id n ⟨fr,hp,hA,h⟩ ?_
    rintro n a w ⟨fr,hp,hA,h⟩
    cases n with
    |zero=>exact h.elim
    |succ n=>
     refine ih _ _ fr hp a w ?_ hA h
     intro e bx bG a' w' hk u6
     cases e with
     |n=>exact⟨n,⟨bx,bG,u6,hk⟩,Nat.lt_succ_self n⟩
     |x id=>exact hQ (.x id) bx bG a' w' hk u6
     |r=>exact hQ .r bx bG a' w' hk u6
   |inv σ u v μ x0 ρ h0 h=>
    refine Ke (σ:=σ) (λ x a w=>∃ft ht,UI (wrs c) fr hp (u x) (v x)=ab (ft,ht)/\At cx β0 hp0 w0 d0 ft ht a w) μ x0 ?_ ?_
    ·obtain⟨ft,ht,h1,h2⟩:=kv.1 h0
     obtain⟨β,hI,hf,rI,hL⟩:=hA
     obtain⟨cT,g1,g2,g3⟩:=A8 h2 hI hf hL
     exact⟨ft,ht,h1,cT,g1,g2,rI,g3⟩
    ·rintro x a w ⟨ft,ht,h1,u6⟩
     obtain⟨ft',ht',h2,h3⟩:=kv.1 (h x)
     rw[h1] at h2
     simp only[aF,bz] at h2
     obtain⟨rfl,rfl⟩:=h2
     refine ih _ _ ft ht a w ?_ u6 h3
     intro e bx bG a' w' hk EY
     cases e with
     |n=>
      obtain⟨x',ρ',cj,h4⟩:=hk
      obtain⟨ft2,ht2,h5,h6⟩:=kv.1 h4
      obtain⟨β,hI,hf,rI,hL⟩:=EY
      obtain⟨cT,g1,g2,g3⟩:=A8 h6 hI hf hL
      exact⟨x',⟨ft2,ht2,h5,cT,g1,g2,rI,g3⟩,cj⟩
     |x id=>exact hQ (.x id) bx bG a' w' hk EY
     |r=>exact hQ .r bx bG a' w' hk EY
   |zmD m σ u v μ x0 ρ h0 h=>
    replace hA:=zhF m hA
    simp only[PX] at h0 h
    refine Ke (σ:=σ) (λ x a w=>∃ft ht,UI (wrs c) fr (hp++aX m .d) (u x) (v x)=ab (ft,ht)/\At cx β0 hp0 w0 d0 ft ht a w) μ x0 ?_ ?_
    ·obtain⟨ft,ht,h1,h2⟩:=kv.1 h0
     obtain⟨β,hI,hf,rI,hL⟩:=hA
     obtain⟨cT,g1,g2,g3⟩:=A8 h2 hI hf hL
     exact⟨ft,ht,h1,cT,g1,g2,rI,g3⟩
    ·rintro x a w ⟨ft,ht,h1,u6⟩
     obtain⟨ft',ht',h2,h3⟩:=kv.1 (h x)
     rw[h1] at h2
     simp only[aF,bz] at h2
     obtain⟨rfl,rfl⟩:=h2
     refine ih _ _ ft ht a w ?_ u6 h3
     intro e bx bG a' w' hk EY
     cases e with
     |n=>
      obtain⟨x',ρ',cj,h4⟩:=hk
      obtain⟨ft2,ht2,h5,h6⟩:=kv.1 h4
      obtain⟨β,hI,hf,rI,hL⟩:=EY
      obtain⟨cT,g1,g2,g3⟩:=A8 h6 hI hf hL
      exact⟨x',⟨ft2,ht2,h5,cT,g1,g2,rI,g3⟩,cj⟩
     |x id=>exact hQ (.x id) bx bG a' w' hk EY
     |r=>exact hQ .r bx bG a' w' hk EY
  refine zbK ?_
  cases h with
  |g h=>exact key fr hp a w hA h
  |un n h=>
   induction n generalizing fr hp a w with
   |zero=>exact key fr hp a w hA h
   |succ n ihn=>
    refine zds (ih _ _ fr hp a w ?_ hA h)
    intro e bx bG a' w' hk u6
    cases e with
    |n=>exact ihn bx bG a' w' u6 hk
    |x id=>exact hQ (.x id) bx bG a' w' hk u6
    |r=>exact hQ .r bx bG a' w' hk u6
 |exit id=>intro K Q fr hp a w hQ hA h;exact wp_exit (hQ (.x id) fr hp a w h hA)
 |ret=>intro K Q fr hp a w hQ hA h;exact wp_ret (hQ .r fr hp a w h hA)
 |_=>intro K Q fr hp a w hQ hA h;exact h.elim
def zaX(a:Act)(r:mz):Sem aj:=match r with
 |.tmp t=>pure (a.tmps.getD t undef)
 |.cell b t=>do loadVar t (<-asAddr (a.tmps.getD b undef))
theorem zbU(fn:fI)(a:Act):results fn a.tmps=(do
  let vs <-fn.results.mapM (zaX a)
  pure (if h:vs.size=1 then vs[0] else .tuple vs)):=by
 unfold results
 congr 1
theorem ZD{T:oU}(hT:jc P T)(hI:Inv cx β hp w)(hf:FR cx β fr a.tmps){r:mz}{K:AV->Prop}(h:zri T fr hp r K):
  ∃x,K x/\∃v,AC cx β x v/\(zaX a r).run P w=.ok v w:=by
 cases r with
 |tmp t=>
  obtain⟨x,h1,h2⟩:=pW.1 h
  exact⟨x,h2,_,hf.2 t x h1,rfl⟩
 |cell b t=>
  obtain⟨x,h1,v,h2,h3⟩:=Kb (o:={ dst:=ak,op:=.load t (.tmp b),type:=0,pos := "",after:=#[],guard:=ak }) hT hI hf h
  refine⟨x,h1,v,h2,?_⟩
  have h4:=h3 w rfl
  simp only[bd,bX,zaX] at h4 ⊢
  cases hv:a.tmps.getD b undef<;>rw[hv] at h4<;>first|(simp[eY,bZ,stuck,Sem.run] at h4;done)|skip
  rename_i ad
  cases ad with
  |none=>simp[eY,bZ,stuck,Sem.run] at h4
  |some ad=>
   simp only[eY,bZ,Sem.run_bind,Sem.run_pure,bc,asAddr] at h4 ⊢
   cases hl:(loadVar t ad).run P w with
   |ok u w'=>
    rw[hl] at h4
    simp at h4
    rw[h4.1,h4.2]
   |halt x w'=>rw[hl] at h4;simp at h4
theorem zbT{x:AV}{v:aj}{K:(LV⊕List LV)->Prop}(h:zhp x K)(hx:AC cx β x v):∃y,K y/\∀ys vs,VO cx β ys vs->VO cx β (y::ys) (v::vs):=by
 unfold zhp at h
 split at h
 ·exact⟨_,h,λ ys vs ht=>⟨hx,ht⟩⟩
 ·exact⟨_,h,λ ys vs ht=>⟨hx,ht⟩⟩
 ·exact h.elim
theorem Vm{T:oU}(hT:jc P T){fr:Fr}{a:Act}(hI:Inv cx β hp w)(hf:FR cx β fr a.tmps):∀{rs:List mz} {K:List (LV⊕List LV)->Prop} (acc:Array aj),zhq T fr hp rs K->
  ∃xs,K xs/\∃vs:List aj,VO cx β xs vs/\vs.length=rs.length/\(rs.foldlM (λ(b:Array aj) (r:mz)=>Functor.map b.push (zaX a r)) acc).run P w=.ok (acc++vs.toArray) w
 |[],K,acc,h=>⟨[],h,[],trivial,rfl,by simp⟩
 |r::rs,K,acc,h=>by
  obtain⟨x,h1,v,h2,h3⟩:=ZD hT hI hf h
  obtain⟨y,h4,h5⟩:=zbT h1 h2
  obtain⟨xs,h6,vs,h7,h8,h9⟩:=Vm hT hI hf (acc.push v) h4
  refine⟨y::xs,h6,v::vs,h5 _ _ h7,by simp[h8],?_⟩
  rw[iE]
  change Sem.run P (((zaX a r) >>= λ c=>pure (acc.push c)) >>= λ b=>rs.foldlM _ b) w=_
  rw[Sem.run_bind,Sem.run_bind,h3]
  simp only[bc,Sem.run_pure]
  rw[h9]
  simp
theorem xq{T:oU}(hT:jc P T){fn:fI}(hI:Inv cx β hp w)(hf:FR cx β fr a.tmps){K:AV->Prop}(h:Wb T fr hp fn.results.toList K):∃x,K x/\∃v,AC cx β x v/\(results fn a.tmps).run P w=.ok v w:=by
 have run:∀(vs:List aj),(fn.results.toList.foldlM (λ(b:Array aj) (r:mz)=>Functor.map b.push (zaX a r)) #[]).run P w=.ok vs.toArray w->(results fn a.tmps).run P w=.ok (if h:vs.toArray.size=1 then vs.toArray[0] else .tuple vs.toArray) w:=by
  intro vs hv
  rw[zbU,Sem.run_bind,Array.mapM_eq_foldlM,<-Array.foldlM_toList]
  rw[hv,bc]
  rfl
 unfold Wb at h
 split at h
 ·rename_i r hr
  obtain⟨x,h1,v,h2,h3⟩:=ZD hT hI hf h
  refine⟨x,h1,v,h2,?_⟩
  refine run [v] ?_
  rw[hr,iE]
  change Sem.run P (((zaX a r) >>= λ c=>pure ((#[]:Array aj).push c)) >>= λ b=>pure b) w=_
  rw[Sem.run_bind,Sem.run_bind,h3]
  simp
 ·rename_i rs hrs
  obtain⟨xs,h1,vs,h2,h3,h4⟩:=Vm hT hI hf #[] h
  have h5:=run vs (by simpa using h4)
  refine⟨_,h1,.tuple vs.toArray,⟨_,rfl,by simpa using h2⟩,?_⟩
  rw[h5,dif_neg]
  intro e
  have hl:vs.length=1:=by simpa using e
  rw[h3] at hl
  obtain⟨r,hr⟩:=List.length_eq_one_iff.1 hl
  exact hrs r hr
theorem G4:∀(n:Nat) (xs:Fr),xs.length<=n->(C8 n xs).length=n
 |0,xs,h=>by simpa [C8] using h
 |n+1,[],_=>by simp[C8,G4 n [] (by simp)]
 |n+1,_::xs,h=>by simp[C8,G4 n xs (by simpa using h)]
theorem G3:∀(n:Nat) (xs:Fr) (i:Nat) (x:AV),(C8 n xs)[i]?=ab x->xs[i]?=ab x\/x=.j
 |0,xs,i,x,h=>.inl h
 |n+1,[],0,x,h=>by simp[C8] at h;exact .inr h.symm
 |n+1,[],i+1,x,h=>by
  rcases G3 n [] i x (by simpa [C8] using h) with h|h
  ·simp at h
  ·exact .inr h
 |n+1,y::xs,0,x,h=>by simp[C8] at h;exact .inl (by simp[h])
 |n+1,y::xs,i+1,x,h=>by simpa using G3 n xs i x (by simpa [C8] using h)
theorem Uv.get:∀{xs:List AV} {vs:List aj} {i:Nat} {x:AV},Uv cx β xs vs->xs[i]?=ab x->∃v,vs[i]?=ab v/\AC cx β x v
 |[],_,_,_,_,h=>by simp at h
 |_::_,[],_,_,hc,_=>hc.elim
 |y::xs,v::vs,0,x,hc,h=>by simp at h;subst h;exact⟨v,rfl,hc.1⟩
 |y::xs,v::vs,i+1,x,hc,h=>by
  obtain⟨u,h1,h2⟩:=Uv.get hc.2 (i:=i) (by simpa using h)
  exact⟨u,by simpa using h1,h2⟩
theorem Uv.length:∀{xs:List AV} {vs:List aj},Uv cx β xs vs->xs.length=vs.length
 |[],[],_=>rfl
 |_::_,_::_,h=>by simp[Uv.length h.2]
 |[],_::_,h=>h.elim
 |_::_,[],h=>h.elim
theorem CN{T:oU}{G:Env}(hT:jc P T)(hG:AN P G cx)(hM:P.follows .mixedOrders=ae){W0:List Nat}{TR:Nat->Tr}{f:ck}{fn:fI}(hfn:P.funcs[f]?=ab fn){xs:List AV}{vs:Array aj}{K:AV->Hp->Prop}
  (hI:Inv cx β hp w) (ha:Uv cx β xs vs.toList) (hn:xs.length<=fn.ntmps) (h:zN T G hp.length W0 TR fn xs hp K):
  Calls P f vs w λ e w'=>∃v r bG cT,e=.returned v/\K r bG/\AC cx cT r v/\Inv cx cT bG w'/\Lk β hp w cT bG w':=by
 unfold zN at h
 split at h
 ·exact h.elim
 ·rename_i c hc
  have hl:xs.length=vs.size:=by rw[ha.length];simp
  refine calls_of_wp hfn hc (JX (β0:=β) (hp0:=hp) (w0:=w) (cx:=cx) (d0:=[]) hT hG hM c _ _ _ hp _ w ?_ ⟨β,hI,⟨?_,λ i x hi=>?_⟩,rfl,⟨λ k e _ he=>?_,λ k b hb=>?_,aA _,aA _,λ _ _ _=>rfl⟩⟩ h)
  ·intro e fr bG a w' hk hA
   obtain⟨cT,nX,Cr,rI,hL⟩:=hA
   cases e with
   |n=>
    obtain⟨r,h1,v,h2,h3⟩:=xq hT nX Cr hk
    exact⟨rI,v,h3,v,r,bG,cT,rfl,h1,h2,nX,hL⟩
   |r=>
    obtain⟨r,h1,v,h2,h3⟩:=xq hT nX Cr hk
    exact⟨rI,v,h3,v,r,bG,cT,rfl,h1,h2,nX,hL⟩
   |x id=>exact hk.elim
  ·rw[G4 _ _ hn];simp;omega
  ·rcases G3 _ _ i x hi with h1|rfl
   ·obtain⟨v,h2,h3⟩:=ha.get h1
    have cj:i<vs.size:=by
     have:=(aO.1 h2).1
     simpa using this
    have:(vs++Array.replicate (fn.ntmps-vs.size) undef).getD i undef=v:=by
     have h4:vs[i]?=ab v:=by simpa using h2
     simp[Array.getD_eq_getD_getElem?,kj cj,h4]
    rw[this]
    exact h3
   ·trivial
  ·cases e with
   |b n=>exact he
   |r v eC=>exact⟨v,eC,he,aA _,λ _=>rfl⟩
   |x=>trivial
  ·obtain⟨x,e,h1,_,_⟩:=mB hb
   exact .inl ⟨(aO.1 h1).1,hb⟩
end
end Ab
open Go.RowKit
namespace Ab
inductive Sh where
 |int
 |bool
 |ints
 |bK
 |bytes
@[reducible] def Sh.T:Sh->Type
 |.int=>Int
 |.bool=>Bool
 |.ints=>List Int
 |.bK=>List (Int×Int)
 |.bytes=>List UInt8
@[reducible] def HL:List Sh->Type
 |[]=>Unit
 |s::r=>s.T×HL r
@[reducible] def DA:List (Sh⊕List Sh)->Type
 |[]=>Unit
 |.inl s::r=>s.T×DA r
 |.inr ss::r=>HL ss×DA r
def zmy:(s:Sh)->s.T->LV
 |.int,n=>.v (.int .i64 n)
 |.bool,b=>.v (.bool b)
 |.ints,l=>.f (.ints l)
 |.bK,l=>.f (.bK l)
 |.bytes,l=>.f (.bytes l)
def zaM:(ss:List Sh)->HL ss->List LV
 |[],_=>[]
 |s::r,x=>zmy s x.1::zaM r x.2
def MW:(sig:List (Sh⊕List Sh))->DA sig->List AV
 |[],_=>[]
 |.inl s::r,x=>.l (zmy s x.1)::MW r x.2
 |.inr ss::r,x=>.a (zaM ss x.1)::MW r x.2
def zg9:(s:Sh)->s.T->(LV->Prop)->Prop
 |.int,n,K=>K (.v (.int .i64 n))
 |.bool,b,K=>K (.v (.bool b))
 |.ints,l,K=>K (.f (.ints l))
 |.bK,l,K=>K (.f (.bK l))
 |.bytes,l,K=>K (.f (.bytes l))
def YF:(ss:List Sh)->HL ss->(List LV->Prop)->Prop
 |[],_,K=>K []
 |s::r,(a,b),K=>zg9 s a λ x=>YF r b λ xs=>K (x::xs)
def xj:(sig:List (Sh⊕List Sh))->DA sig->(List AV->Prop)->Prop
 |[],_,K=>K []
 |.inl s::r,(a,b),K=>zg9 s a λ x=>xj r b λ xs=>K (.l x::xs)
 |.inr ss::r,(a,b),K=>YF ss a λ x=>xj r b λ xs=>K (.a x::xs)
theorem U7{s:Sh}{x:s.T}{K:LV->Prop}:zg9 s x K↔K (zmy s x):=by cases s<;>exact Cu
theorem J0:∀{ss:List Sh} {x:HL ss} {K:List LV->Prop},YF ss x K↔K (zaM ss x)
 |[],_,_=>Cu
 |s::r,(a,b),K=>by simp only[YF,U7,J0 (ss:=r),zaM]
theorem qM:∀{sig:List (Sh⊕List Sh)} {x:DA sig} {K:List AV->Prop},xj sig x K↔K (MW sig x)
 |[],_,_=>Cu
 |.inl s::r,(a,b),K=>by simp only[xj,U7,qM (sig:=r),MW]
 |.inr s::r,(a,b),K=>by simp only[xj,J0,qM (sig:=r),MW]
def bdL:(s:Sh)->s.T->Prop
 |.ints,l=>l.length<=pM
 |.bK,l=>l.length<=pM
 |.bytes,l=>l.length<=pM
 |_,_=>True
def bds:(ss:List Sh)->HL ss->Prop
 |[],_=>True
 |s::r,x=>bdL s x.1/\bds r x.2
def bdA:(sig:List (Sh⊕List Sh))->DA sig->Prop
 |[],_=>True
 |.inl s::r,x=>bdL s x.1/\bdA r x.2
 |.inr ss::r,x=>bds ss x.1/\bdA r x.2
def rdE(w:ai)(l:EL)(v:aj):Prop:=Sl w l.sz v l.len l.enc/\l.len<=pM
def rdL(w:ai):(s:Sh)->s.T->aj->Prop
 |.int,n,v=>v=.int .i64 n
 |.bool,b,v=>v=.bool b
 |.ints,l,v=>rdE w (.ints l) v
 |.bK,l,v=>rdE w (.bK l) v
 |.bytes,l,v=>rdE w (.bytes l) v
def VV(w:ai):(ss:List Sh)->HL ss->List aj->Prop
 |[],_,[]=>True
 |s::r,x,v::vs=>rdL w s x.1 v/\VV w r x.2 vs
 |_,_,_=>False
def rdA(w:ai):(sig:List (Sh⊕List Sh))->DA sig->List aj->Prop
 |[],_,[]=>True
 |.inl s::r,x,v::vs=>rdL w s x.1 v/\rdA w r x.2 vs
 |.inr ss::r,x,v::vs=>(∃us,v=.agg us/\VV w ss x.1 us.toList)/\rdA w r x.2 vs
 |_,_,_=>False
inductive DL where
 |v (x:aj)
 |s (E:au) (l:EL)
inductive DV where
 |l (x:DL)
 |a (cs:List DL)
 |t (xs:List (DL⊕List DL))
def frL(w:ai)(base:Nat)(d:DL)(v:aj)(bs:List Nat):Prop:=match d with
 |.v x=>v=x/\x.oneCell'=ae/\bs=[]
 |.s E l=>w.ownsRow base E l.sz v l.len l.enc/\l.len<=pM/\bs=v.ownBlock.toList
def C6(w:ai)(base:Nat):List DL->List aj->List Nat->Prop
 |[],[],bs=>bs=[]
 |d::ds,v::vs,bs=>∃b1 b2,bs=b1++b2/\frL w base d v b1/\C6 w base ds vs b2
 |_,_,_=>False
def zed(w:ai)(base:Nat):List (DL⊕List DL)->List aj->List Nat->Prop
 |[],[],bs=>bs=[]
 |.inl d::ds,v::vs,bs=>∃b1 b2,bs=b1++b2/\frL w base d v b1/\zed w base ds vs b2
 |.inr cs::ds,v::vs,bs=>∃b1 b2,bs=b1++b2/\(∃us,v=.agg us/\C6 w base cs us.toList b1)/\zed w base ds vs b2
 |_,_,_=>False
def frV(w:ai)(base:Nat)(d:DV)(v:aj)(bs:List Nat):Prop:=match d with
 |.l x=>frL w base x v bs
 |.a cs=>∃us,v=.agg us/\C6 w base cs us.toList bs
 |.t xs=>∃us,v=.tuple us/\zed w base xs us.toList bs
def ji(P:aG)(f:ck)(sig:List (Sh⊕List Sh))(S:DA sig->(DV->Prop)->Prop):Prop:=∀(x:DA sig) (K:DV->Prop),S x K->∀(w:ai) (vs:Array aj),rdA w sig x vs.toList->Gw w->
 Calls P f vs w λ e w'=>∃d v,e=.returned v/\K d/\cE w.heap.size w w'/\∃bs,frV w' w.heap.size d v bs/\bs.Nodup
def zqS(hp:Hp)(ek:EK)(x:LV)(K:EL->Prop):Prop:=zc6 hp ek (.l x) K
def zmv(hp:Hp):(s:Sh)->LV->(s.T->Prop)->Prop
 |.int,x,K=>(match x with
  |.v (.int .i64 n)=>K n
  |_=>False)
 |.bool,x,K=>(match x with
  |.v (.bool b)=>K b
  |_=>False)
 |.ints,x,K=>zqS hp .ints x λ e=>(match e with
  |.ints l=>K l
  |_=>False)
 |.bK,x,K=>zqS hp .bK x λ e=>(match e with
  |.bK l=>K l
  |_=>False)
 |.bytes,x,K=>zqS hp .bytes x λ e=>(match e with
  |.bytes l=>K l
  |_=>False)
def zmw(hp:Hp):(ss:List Sh)->List LV->(HL ss->Prop)->Prop
 |[],[],K=>K ()
 |s::r,x::xs,K=>zmv hp s x λ a=>zmw hp r xs λ b=>K (a,b)
 |_,_,_=>False
def EX(hp:Hp):(sig:List (Sh⊕List Sh))->List AV->(DA sig->Prop)->Prop
 |[],[],K=>K ()
 |.inl s::r,.l x::xs,K=>zmv hp s x λ a=>EX hp r xs λ b=>K (a,b)
 |.inr ss::r,.a cs::xs,K=>zmw hp ss cs λ a=>EX hp r xs λ b=>K (a,b)
 |_,_,_=>False
def zmB(hp:Hp)(d:DL)(K:LV->Hp->Prop):Prop:=match d with
 |.v x=>K (.v x) hp
 |.s E l=>Ym hp 0 (.r 0 E l) λ k bG=>K (.s k 0) bG
def YJ:Hp->List DL->(List LV->Hp->Prop)->Prop
 |hp,[],K=>K [] hp
 |hp,d::ds,K=>zmB hp d λ x bG=>YJ bG ds λ xs qC=>K (x::xs) qC
def zcZ:Hp->List (DL⊕List DL)->(List (LV⊕List LV)->Hp->Prop)->Prop
 |hp,[],K=>K [] hp
 |hp,.inl d::ds,K=>zmB hp d λ x bG=>zcZ bG ds λ xs qC=>K (.inl x::xs) qC
 |hp,.inr cs::ds,K=>YJ hp cs λ x bG=>zcZ bG ds λ xs qC=>K (.inr x::xs) qC
def zmC(hp:Hp)(d:DV)(K:AV->Hp->Prop):Prop:=match d with
 |.l x=>zmB hp x λ y bG=>K (.l y) bG
 |.a cs=>YJ hp cs λ ys bG=>K (.a ys) bG
 |.t xs=>zcZ hp xs λ ys bG=>K (.t ys) bG
def dn(sig:List (Sh⊕List Sh))(S:DA sig->(DV->Prop)->Prop):CS:={ S:=λ xs hp K=>EX hp sig xs λ x=>S x λ d=>zmC hp d K,C4:=λ _=>ab [] }
def vEq(y z:aj)(p:Prop):Prop:=match y with
 |.int k a=>(match z with
  |.int k' b=>az (k=k') <| az (a=b) p
  |_=>False)
 |.bool a=>(match z with
  |.bool b=>az (a=b) p
  |_=>False)
 |_=>az (y=z) p
def zgR(hp:Hp)(x:LV)(d:DL)(ks:List Nat)(K:List Nat->Prop):Prop:=match d with
 |.v z=>(match x with
  |.v y=>vEq y z (K ks)
  |_=>False)
 |.s E l=>(match x with
  |.s k eC=>xg hp k eC λ E' l'=>az (V8 ks k=aa) <| az (cQ E' E=ae) <| az (l'=l) <| K (k::ks)
  |.v (.slice ak 0 0)=>az (l.len=0) <| K ks
  |_=>False)
def zc1(hp:Hp):List LV->List DL->List Nat->(List Nat->Prop)->Prop
 |[],[],ks,K=>K ks
 |x::xs,d::ds,ks,K=>zgR hp x d ks λ Yi=>zc1 hp xs ds Yi K
 |_,_,_,_=>False
def GM(hp:Hp):List (LV⊕List LV)->List (DL⊕List DL)->List Nat->(List Nat->Prop)->Prop
 |[],[],ks,K=>K ks
 |.inl x::xs,.inl d::ds,ks,K=>zgR hp x d ks λ Yi=>GM hp xs ds Yi K
 |.inr x::xs,.inr d::ds,ks,K=>zc1 hp x d ks λ Yi=>GM hp xs ds Yi K
 |_,_,_,_=>False
def Pa(hp:Hp)(r:AV)(d:DV):Prop:=match d with
 |.l y=>(match r with
  |.l x=>zgR hp x y [] λ _=>True
  |_=>False)
 |.a ds=>(match r with
  |.a xs=>zc1 hp xs ds [] λ _=>True
  |_=>False)
 |.t ds=>(match r with
  |.t xs=>GM hp xs ds [] λ _=>True
  |_=>False)
section
variable{P:aG}{cx:Cx}{β:List En}{hp:Hp}{w:ai}
variable{v:aj}
theorem Zh{s:Sh}{x:s.T}(h:rdL w s x v):bdL s x/\LC ⟨w,[]⟩ β (zmy s x) v:=by
 cases s with
 |int=>have e:v=.int .i64 x:=h;subst e;exact⟨trivial,rfl,rfl⟩
 |bool=>have e:v=.bool x:=h;subst e;exact⟨trivial,rfl,rfl⟩
 |ints=>
  obtain⟨h1,h2⟩:=h
  obtain⟨a,c,rfl,_⟩:=h1.form
  exact⟨h2,rfl,h1,h2,λ _ _ _ hm=>by cases hm⟩
 |bK=>
  obtain⟨h1,h2⟩:=h
  obtain⟨a,c,rfl,_⟩:=h1.form
  exact⟨h2,rfl,h1,h2,λ _ _ _ hm=>by cases hm⟩
 |bytes=>
  obtain⟨h1,h2⟩:=h
  obtain⟨a,c,rfl,_⟩:=h1.form
  exact⟨h2,rfl,h1,h2,λ _ _ _ hm=>by cases hm⟩
theorem WO:∀{ss:List Sh} {x:HL ss} {vs:List aj},VV w ss x vs->bds ss x/\jP ⟨w,[]⟩ β (zaM ss x) vs
 |[],_,[],_=>⟨trivial,trivial⟩
 |s::r,x,v::vs,h=>by
  have h1:=Zh (β:=β) h.1
  have h2:=WO (ss:=r) h.2
  exact⟨⟨h1.1,h2.1⟩,h1.2,h2.2⟩
 |[],_,_::_,h=>h.elim
 |_::_,_,[],h=>h.elim
theorem Cw:∀{sig:List (Sh⊕List Sh)} {x:DA sig} {vs:List aj},rdA w sig x vs->bdA sig x/\Uv ⟨w,[]⟩ β (MW sig x) vs
 |[],_,[],_=>⟨trivial,trivial⟩
 |.inl s::r,x,v::vs,h=>by
  have h1:=Zh (β:=β) h.1
  have h2:=Cw (sig:=r) h.2
  exact⟨⟨h1.1,h2.1⟩,h1.2,h2.2⟩
 |.inr s::r,x,v::vs,h=>by
  obtain⟨us,e,hu⟩:=h.1
  have h1:=WO (β:=β) hu
  have h2:=Cw (sig:=r) h.2
  exact⟨⟨h1.1,h2.1⟩,⟨us,e,h1.2⟩,h2.2⟩
 |[],_,_::_,h=>h.elim
 |.inl _::_,_,[],h=>h.elim
 |.inr _::_,_,[],h=>h.elim
theorem tR:∀{sig:List (Sh⊕List Sh)} {x:DA sig},(MW sig x).length=sig.length
 |[],_=>rfl
 |.inl _::r,x=>by simp[MW,tR (sig:=r)]
 |.inr _::r,x=>by simp[MW,tR (sig:=r)]
theorem zkq{y z:aj}{p:Prop}(h:vEq y z p):y=z/\p:=by
 unfold vEq at h
 split at h
 ·split at h
  ·obtain⟨h1,h2⟩:=ba.1 h
   obtain⟨h3,h4⟩:=ba.1 h2
   subst h1 h3
   exact⟨rfl,h4⟩
  ·exact h.elim
 ·split at h
  ·obtain⟨h1,h2⟩:=ba.1 h
   subst h1
   exact⟨rfl,h2⟩
  ·exact h.elim
 ·exact ba.1 h
theorem zhl(hI:Inv cx β hp w){x:LV}{d:DL}{ks:List Nat}{K:List Nat->Prop}(hx:LC cx β x v)(h:zgR hp x d ks K):∃Yi,K Yi/\∃bs,frL w cx.w0.heap.size d v bs/\(bs.Nodup/\∀b∈bs,∃k,k∉ks/\k∈Yi/\ownB hp β k=ab b)/\∀k∈ks,k∈Yi:=by
 unfold zgR at h
 split at h
 ·split at h
  ·obtain⟨rfl,h1⟩:=zkq h
   obtain⟨h2,rfl⟩:=hx
   exact⟨ks,h1,[],⟨rfl,h2,rfl⟩,⟨by simp,λ b hb=>by cases hb⟩,λ k hk=>hk⟩
  ·exact h.elim
 ·split at h
  ·rename_i k eC
   obtain⟨E',l',h1,h2⟩:=eV h
   obtain⟨h3,h4⟩:=ba.1 h2
   obtain⟨h5,h6⟩:=ba.1 h4
   obtain⟨h7,h8⟩:=ba.1 h6
   have hE:=bf h5
   subst hE h7
   obtain⟨v1,r2,r3,r4⟩:=lq hI h1
   have:=LO (cx:=cx) hx r2
   subst this
   have hk:k∉ks:=λ e=>by rw[Hk.2 e] at h3;cases h3
   refine⟨_,h8,v.ownBlock.toList,⟨r3,r4,rfl⟩,⟨?_,λ b hb=>⟨k,hk,by simp,?_⟩⟩,λ k' nZ=>by simp[nZ]⟩
   ·cases v.ownBlock<;>simp
   ·rw[ownB_of h1 r2]
    simpa [ow] using hb
  ·obtain⟨h1,h2⟩:=ba.1 h
   obtain⟨_,rfl⟩:=hx
   rename_i E l _ _
   refine⟨ks,h2,[],⟨?_,by omega,rfl⟩,⟨by simp,λ b hb=>by cases hb⟩,λ k hk=>hk⟩
   have he:l.enc=[]:=List.eq_nil_of_length_eq_zero (by rw[l.GW,h1];simp)
   rw[h1,he]
   exact World.ownsRow_nil _ _ _ _
  ·exact h.elim
theorem J2(hI:Inv cx β hp w){ks ks1 ks2:List Nat}{b1 b2:List Nat}(h1:b1.Nodup/\∀b∈b1,∃k,k∉ks/\k∈ks1/\ownB hp β k=ab b)(h2:b2.Nodup/\∀b∈b2,∃k,k∉ks1/\k∈ks2/\ownB hp β k=ab b)(m1:∀k∈ks,k∈ks1)(m2:∀k∈ks1,k∈ks2):
  (b1++b2).Nodup/\∀b∈b1++b2,∃k,k∉ks/\k∈ks2/\ownB hp β k=ab b:=by
 refine⟨jf.2 ⟨h1.1,h2.1,λ x hx y hy e=>?_⟩,λ b hb=>?_⟩
 ·subst e
  obtain⟨k,_,k1,k2⟩:=h1.2 x hx
  obtain⟨k',k3,_,k4⟩:=h2.2 x hy
  have:=hI.dis k k' x k2 k4
  subst this
  exact k3 k1
 ·rcases jr.1 hb with hb|hb
  ·obtain⟨k,k1,k2,k3⟩:=h1.2 b hb
   exact⟨k,k1,m2 k k2,k3⟩
  ·obtain⟨k,k1,k2,k3⟩:=h2.2 b hb
   exact⟨k,λ e=>k1 (m1 k e),k2,k3⟩
theorem zbd(hI:Inv cx β hp w):∀{xs:List LV} {ds:List DL} {vs:List aj} {ks:List Nat} {K:List Nat->Prop},jP cx β xs vs->zc1 hp xs ds ks K->∃Yi,K Yi/\∃bs,C6 w cx.w0.heap.size ds vs bs/\(bs.Nodup/\∀b∈bs,∃k,k∉ks/\k∈Yi/\ownB hp β k=ab b)/\∀k∈ks,k∈Yi
 |[],[],[],ks,K,_,h=>⟨ks,h,[],rfl,⟨by simp,λ b hb=>by cases hb⟩,λ k hk=>hk⟩
 |x::xs,d::ds,v::vs,ks,K,hx,h=>by
  obtain⟨ks1,h1,b1,h2,h3,h4⟩:=zhl hI hx.1 h
  obtain⟨ks2,h5,b2,h6,h7,h8⟩:=zbd hI hx.2 h1
  exact⟨ks2,h5,b1++b2,⟨b1,b2,rfl,h2,h6⟩,J2 hI h3 h7 h4 h8,λ k hk=>h8 k (h4 k hk)⟩
 |[],[],_::_,_,_,hx,_=>hx.elim
 |_::_,_::_,[],_,_,hx,_=>hx.elim
 |[],_::_,_,_,_,_,h=>h.elim
 |_::_,[],_,_,_,_,h=>h.elim
theorem zbe(hI:Inv cx β hp w):∀{xs:List (LV⊕List LV)} {ds:List (DL⊕List DL)} {vs:List aj} {ks:List Nat} {K:List Nat->Prop},VO cx β xs vs->GM hp xs ds ks K->∃Yi,K Yi/\∃bs,zed w cx.w0.heap.size ds vs bs/\(bs.Nodup/\∀b∈bs,∃k,k∉ks/\k∈Yi/\ownB hp β k=ab b)/\∀k∈ks,k∈Yi
 |[],[],[],ks,K,_,h=>⟨ks,h,[],rfl,⟨by simp,λ b hb=>by cases hb⟩,λ k hk=>hk⟩
 |.inl x::xs,.inl d::ds,v::vs,ks,K,hx,h=>by
  obtain⟨ks1,h1,b1,h2,h3,h4⟩:=zhl hI hx.1 h
  obtain⟨ks2,h5,b2,h6,h7,h8⟩:=zbe hI hx.2 h1
  exact⟨ks2,h5,b1++b2,⟨b1,b2,rfl,h2,h6⟩,J2 hI h3 h7 h4 h8,λ k hk=>h8 k (h4 k hk)⟩
 |.inr x::xs,.inr d::ds,v::vs,ks,K,hx,h=>by
  obtain⟨us,e,hu⟩:=hx.1
  obtain⟨ks1,h1,b1,h2,h3,h4⟩:=zbd hI hu h
  obtain⟨ks2,h5,b2,h6,h7,h8⟩:=zbe hI hx.2 h1
  exact⟨ks2,h5,b1++b2,⟨b1,b2,rfl,⟨us,e,h2⟩,h6⟩,J2 hI h3 h7 h4 h8,λ k hk=>h8 k (h4 k hk)⟩
 |[],[],_::_,_,_,hx,_=>hx.elim
 |.inl _::_,.inl _::_,[],_,_,hx,_=>hx.elim
 |.inr _::_,.inr _::_,[],_,_,hx,_=>hx.elim
 |[],_::_,_,_,_,_,h=>by simp[GM] at h
 |.inl _::_,[],_,_,_,_,h=>by simp[GM] at h
 |.inr _::_,[],_,_,_,_,h=>by simp[GM] at h
 |.inl _::_,.inr _::_,_,_,_,_,h=>by simp[GM] at h
 |.inr _::_,.inl _::_,_,_,_,_,h=>by simp[GM] at h
theorem YM(hI:Inv cx β hp w){r:AV}{d:DV}(hr:AC cx β r v)(h:Pa hp r d):∃bs,frV w cx.w0.heap.size d v bs/\bs.Nodup:=by
 unfold Pa at h
 split at h
 ·split at h
  ·obtain⟨_,_,bs,h1,h2,_⟩:=zhl hI hr h
   exact⟨bs,h1,h2.1⟩
  ·exact h.elim
 ·split at h
  ·obtain⟨us,e,hu⟩:=hr
   obtain⟨_,_,bs,h1,h2,_⟩:=zbd hI hu h
   exact⟨bs,⟨us,e,h1⟩,h2.1⟩
  ·exact h.elim
 ·split at h
  ·obtain⟨us,e,hu⟩:=hr
   obtain⟨_,_,bs,h1,h2,_⟩:=zbe hI hu h
   exact⟨bs,⟨us,e,h1⟩,h2.1⟩
  ·exact h.elim
theorem zrB{T:oU}{G:Env}{TR:Nat->Tr}{f:ck}{fn:fI}{sig:List (Sh⊕List Sh)}{S:DA sig->(DV->Prop)->Prop}(hT:jc P T)(hM:P.follows .mixedOrders=ae)(hG:bg P G)(hfn:P.funcs[f]?=ab fn)(hn:hY sig.length fn.ntmps=ae)
  (h:∀(x:DA sig) (K:DV->Prop),S x K->bdA sig x->xj sig x λ vs0=>zN T G 0 [] TR fn vs0 [] λ r hp=>∃d,Pa hp r d/\K d):ji P f sig S:=by
 intro x K hS w vs hr hg
 obtain⟨hb,ha⟩:=Cw (β:=[]) hr
 have hI:Inv ⟨w,[]⟩ [] [] w:=⟨wa.refl _ _,rfl,λ k t e h=>by simp at h,λ i k b h=>by simp[ownB] at h⟩
 refine cR (CN (W0:=[]) hT ⟨hG,.inr ⟨hg,Gm.nil⟩⟩ hM hfn hI ha (by rw[tR];simpa using hn) (qM.1 (h x K hS hb))) ?_
 rintro e w' ⟨v,r,bG,cT,rfl,⟨d,h1,h2⟩,h3,nX,_⟩
 obtain⟨bs,h4,h5⟩:=YM nX h3 h1
 exact⟨d,v,rfl,h2,⟨nX.kp.os,nX.kp.tape,nX.kp.output,nX.kp.size,λ b hb=>nX.kp.block b hb (by simp)⟩,bs,h4,h5⟩
theorem zoM(hI:Inv cx β hp w){s:Sh}{x:LV}{K:s.T->Prop}(hx:LC cx β x v)(h:zmv hp s x K):∃y,K y/\rdL w s y v:=by
 cases s<;>simp only[zmv] at h
 ·split at h
  ·exact⟨_,h,hx.2⟩
  ·exact h.elim
 ·split at h
  ·exact⟨_,h,hx.2⟩
  ·exact h.elim
 all_goals
  obtain⟨l,h1,h2,h3⟩:=Vl (a:=.l x) hI hx h
  split at h1
  ·exact⟨_,h1,h2,h3⟩
  ·exact h1.elim
theorem zg5(hI:Inv cx β hp w):∀{ss:List Sh} {xs:List LV} {vs:List aj} {K:HL ss->Prop},jP cx β xs vs->zmw hp ss xs K->∃y,K y/\VV w ss y vs
 |[],[],[],K,_,h=>⟨(),h,trivial⟩
 |s::r,x::xs,v::vs,K,hx,h=>by
  obtain⟨a,h1,h2⟩:=zoM hI hx.1 h
  obtain⟨b,h3,h4⟩:=zg5 hI hx.2 h1
  exact⟨(a,b),h3,h2,h4⟩
 |[],[],_::_,_,hx,_=>hx.elim
 |_::_,_::_,[],_,hx,_=>hx.elim
 |[],_::_,_,_,_,h=>h.elim
 |_::_,[],_,_,_,h=>h.elim
theorem UF(hI:Inv cx β hp w):∀{sig:List (Sh⊕List Sh)} {xs:List AV} {vs:List aj} {K:DA sig->Prop},Uv cx β xs vs->EX hp sig xs K->∃y,K y/\rdA w sig y vs
 |[],[],[],K,_,h=>⟨(),h,trivial⟩
 |.inl s::r,.l x::xs,v::vs,K,hx,h=>by
  obtain⟨a,h1,h2⟩:=zoM hI hx.1 h
  obtain⟨b,h3,h4⟩:=UF hI hx.2 h1
  exact⟨(a,b),h3,h2,h4⟩
 |.inr s::r,.a x::xs,v::vs,K,hx,h=>by
  obtain⟨us,e,hu⟩:=hx.1
  obtain⟨a,h1,h2⟩:=zg5 hI hu h
  obtain⟨b,h3,h4⟩:=UF hI hx.2 h1
  exact⟨(a,b),h3,⟨us,e,h2⟩,h4⟩
 |[],[],_::_,_,hx,_=>hx.elim
 |[],_::_,_,_,_,h=>by simp[EX] at h
 |.inl _::_,[],_,_,_,h=>by simp[EX] at h
 |.inr _::_,[],_,_,_,h=>by simp[EX] at h
 |.inl _::_,.a _::_,_,_,_,h=>by simp[EX] at h
 |.inl _::_,.t _::_,_,_,_,h=>by simp[EX] at h
 |.inl _::_,.j::_,_,_,_,h=>by simp[EX] at h
 |.inr _::_,.l _::_,_,_,_,h=>by simp[EX] at h
 |.inr _::_,.t _::_,_,_,_,h=>by simp[EX] at h
 |.inr _::_,.j::_,_,_,_,h=>by simp[EX] at h
 |.inl _::_,.l _::_,[],_,hx,_=>hx.elim
 |.inr _::_,.a _::_,[],_,hx,_=>hx.elim
structure VL(cx:Cx)(B:Nat)(w':ai)(β:List En)(hp:Hp)(U:List Nat)(cT:List En)(bG:Hp):Prop where
 inv:Inv cx cT bG w'
 len:hp.length<=bG.length
 pre:∀k,k<hp.length->bG[k]?=hp[k]?/\cT[k]?=β[k]?
 own:∀k b,ownB bG cT k=ab b->ownB hp β k=ab b\/(B<=b/\b∈U)
theorem zdn(β:List En)(e:En):Ext β (β++[e]):=by
 intro k e0 he
 have cj:k < β.length:=(aO.1 he).1
 have me:(β++[e])[k]?=ab e0:=by rw[aQ cj];exact he
 cases e0 with
 |b n=>exact me
 |r v eC=>exact⟨v,eC,me,aA _,λ _=>rfl⟩
 |x=>trivial
theorem zni{k b:Nat}{x:HB}{e:En}(hl:β.length=hp.length)(h:ownB (hp++[x]) (β++[e]) k=ab b):ownB hp β k=ab b\/(k=hp.length/\ow x e=ab b):=by
 obtain⟨t,e1,h1,h2,h3⟩:=mB h
 by_cases hk:k<hp.length
 ·rw[aQ hk] at h1
  rw[aQ (by omega)] at h2
  exact .inl (by rw[ownB_of h1 h2];exact h3)
 ·have tl:k=hp.length:=by
   have:=(aO.1 h1).1
   simp at this
   omega
  subst tl
  simp only[jK,aF] at h1
  rw[<-hl] at h2
  simp only[jK,aF] at h2
  subst h1 h2
  exact .inr ⟨rfl,h3⟩
variable{w':ai}
theorem VL.add{B:Nat}{U:List Nat}{sB:List En}{ku:Hp}(cj:∀k b,ownB hp β k=ab b->b<B)(h:VL cx B w' β hp U sB ku)(hcx:cx.w0.heap.size<=B){E:au}{l:EL}(ho:w'.ownsRow B E l.sz v l.len l.enc)(hm:l.len<=pM)(hU:∀b∈v.ownBlock.toList,b∉U):
  VL cx B w' β hp (U++v.ownBlock.toList) (sB++[.r v 0]) (ku++[.r 0 E l]):=by
 have hl:=h.inv.len
 have new:∀k b,ownB (ku++[.r 0 E l]) (sB++[.r v 0]) k=ab b->ownB ku sB k=ab b\/(k=ku.length/\v.ownBlock=ab b):=λ k b hb=>zni hl hb
 have clash:∀k b,ownB ku sB k=ab b->v.ownBlock=ab b->False:=λ k b h1 h2=>by
  have hb:=ho.lt b h2
  rcases h.own k b h1 with h3|h3
  ·have:=cj k b h3;omega
  ·exact hU b (by simp[h2]) h3.2
 refine⟨⟨h.inv.kp,by simp[hl],λ k t e g1 g2=>?_,λ i j b g1 g2=>?_⟩,by have:=h.len;simp;omega,λ k hk=>?_,λ k b hb=>?_⟩
 ·by_cases hk:k<ku.length
  ·rw[aQ hk] at g1
   rw[aQ (by omega)] at g2
   exact(h.inv.OZ k t e g1 g2).keep (zdn _ _) λ _ _=>rfl
  ·have tl:k=ku.length:=by
    have:=(aO.1 g1).1
    simp at this
    omega
   subst tl
   simp only[jK,aF] at g1
   rw[<-hl] at g2
   simp only[jK,aF] at g2
   subst g1 g2
   exact⟨rfl,CV ho hcx,hm⟩
 ·rcases new i b g1 with h1|⟨rfl,h1⟩<;>rcases new j b g2 with h2|⟨rfl,h2⟩
  ·exact h.inv.dis i j b h1 h2
  ·exact(clash i b h1 h2).elim
  ·exact(clash j b h2 h1).elim
  ·rfl
 ·obtain⟨h1,h2⟩:=h.pre k hk
  have:=h.len
  exact⟨(aQ (by omega)).trans h1,(aQ (by omega)).trans h2⟩
 ·rcases new k b hb with h1|⟨rfl,h1⟩
  ·exact(h.own k b h1).imp id λ h2=>⟨h2.1,by simp[h2.2]⟩
  ·exact .inr ⟨(ho.lt b h1).1,by simp[h1]⟩
variable{bs:List Nat}
theorem zhg{B:Nat}(cj:∀k b,ownB hp β k=ab b->b<B)(hcx:cx.w0.heap.size<=B){U:List Nat}{sB:List En}{ku:Hp}(h:VL cx B w' β hp U sB ku){d:DL}(hf:frL w' B d v bs)(hU:∀b∈bs,b∉U){K:LV->Hp->Prop}(hk:zmB ku d K):
  ∃x qC O4,K x qC/\LC cx O4 x v/\VL cx B w' β hp (U++bs) O4 qC/\Ext sB O4:=by
 cases d with
 |v y=>
  obtain⟨rfl,h1,rfl⟩:=hf
  exact⟨_,ku,sB,hk,⟨h1,rfl⟩,by simpa using h,Ext.refl _⟩
 |s E l=>
  obtain⟨h1,h2,rfl⟩:=hf
  have h3:=PH.1 hk
  rw[Nat.zero_add] at h3
  have Ys:v.oneCell'=ae:=by obtain⟨_,_,rfl⟩:=xG h1;rfl
  exact⟨_,_,sB++[.r v 0],h3,⟨Ys,v,0,by rw[<-h.inv.len];simp,aA _,λ _=>rfl⟩,h.add cj hcx h1 h2 hU,zdn _ _⟩
theorem za9{B:Nat}{w':ai}(cj:∀k b,ownB hp β k=ab b->b<B)(hcx:cx.w0.heap.size<=B):∀{ds:List DL} {vs:List aj} {bs U:List Nat} {sB:List En} {ku:Hp} {K:List LV->Hp->Prop},VL cx B w' β hp U sB ku->C6 w' B ds vs bs->bs.Nodup->(∀b∈bs,b∉U)->YJ ku ds K->
  ∃xs qC O4,K xs qC/\jP cx O4 xs vs/\VL cx B w' β hp (U++bs) O4 qC/\Ext sB O4
 |[],[],bs,U,sB,ku,K,h,hf,_,_,hk=>by
  have e:bs=[]:=hf
  subst e
  exact⟨[],ku,sB,hk,trivial,by simpa using h,Ext.refl _⟩
 |d::ds,v::vs,bs,U,sB,ku,K,h,hf,hn,hU,hk=>by
  obtain⟨b1,b2,rfl,h1,h2⟩:=hf
  obtain⟨n1,n2,n3⟩:=jf.1 hn
  obtain⟨x,qC,O4,h3,h4,h5,h6⟩:=zhg cj hcx h h1 (λ b hb=>hU b (by simp[hb])) hk
  obtain⟨xs,VU,β3,h7,h8,h9,vc⟩:=za9 cj hcx h5 h2 n2 (λ b hb e=>by
   rcases jr.1 e with e|e
   ·exact hU b (by simp[hb]) e
   ·exact n3 b e b hb rfl) h3
  exact⟨x::xs,VU,β3,h7,⟨h4.ext vc,h8⟩,by simpa [dN] using h9,h6.trans vc⟩
 |[],_::_,_,_,_,_,_,_,hf,_,_,_=>hf.elim
 |_::_,[],_,_,_,_,_,_,hf,_,_,_=>hf.elim
theorem zba{B:Nat}{w':ai}(cj:∀k b,ownB hp β k=ab b->b<B)(hcx:cx.w0.heap.size<=B):∀{ds:List (DL⊕List DL)} {vs:List aj} {bs U:List Nat} {sB:List En} {ku:Hp} {K:List (LV⊕List LV)->Hp->Prop},VL cx B w' β hp U sB ku->zed w' B ds vs bs->bs.Nodup->(∀b∈bs,b∉U)->zcZ ku ds K->
  ∃xs qC O4,K xs qC/\VO cx O4 xs vs/\VL cx B w' β hp (U++bs) O4 qC/\Ext sB O4
 |[],[],bs,U,sB,ku,K,h,hf,_,_,hk=>by
  have e:bs=[]:=hf
  subst e
  exact⟨[],ku,sB,hk,trivial,by simpa using h,Ext.refl _⟩
 |.inl d::ds,v::vs,bs,U,sB,ku,K,h,hf,hn,hU,hk=>by
  obtain⟨b1,b2,rfl,h1,h2⟩:=hf
  obtain⟨n1,n2,n3⟩:=jf.1 hn
  obtain⟨x,qC,O4,h3,h4,h5,h6⟩:=zhg cj hcx h h1 (λ b hb=>hU b (by simp[hb])) hk
  obtain⟨xs,VU,β3,h7,h8,h9,vc⟩:=zba cj hcx h5 h2 n2 (λ b hb e=>by
   rcases jr.1 e with e|e
   ·exact hU b (by simp[hb]) e
   ·exact n3 b e b hb rfl) h3
  exact⟨.inl x::xs,VU,β3,h7,⟨h4.ext vc,h8⟩,by simpa [dN] using h9,h6.trans vc⟩
 |.inr d::ds,v::vs,bs,U,sB,ku,K,h,hf,hn,hU,hk=>by
  obtain⟨b1,b2,rfl,⟨us,e,h1⟩,h2⟩:=hf
  obtain⟨n1,n2,n3⟩:=jf.1 hn
  obtain⟨x,qC,O4,h3,h4,h5,h6⟩:=za9 cj hcx h h1 n1 (λ b hb=>hU b (by simp[hb])) hk
  obtain⟨xs,VU,β3,h7,h8,h9,vc⟩:=zba cj hcx h5 h2 n2 (λ b hb e=>by
   rcases jr.1 e with e|e
   ·exact hU b (by simp[hb]) e
   ·exact n3 b e b hb rfl) h3
  exact⟨.inr x::xs,VU,β3,h7,⟨⟨us,e,h4.ext vc⟩,h8⟩,by simpa [dN] using h9,h6.trans vc⟩
 |[],_::_,_,_,_,_,_,_,hf,_,_,_=>hf.elim
 |.inl _::_,[],_,_,_,_,_,_,hf,_,_,_=>hf.elim
 |.inr _::_,[],_,_,_,_,_,_,hf,_,_,_=>hf.elim
theorem zo4{B:Nat}(cj:∀k b,ownB hp β k=ab b->b<B)(hcx:cx.w0.heap.size<=B)(nX:Inv cx β hp w'){d:DV}(hf:frV w' B d v bs)(hn:bs.Nodup){K:AV->Hp->Prop}(hk:zmC hp d K):
  ∃r bG cT U,K r bG/\AC cx cT r v/\VL cx B w' β hp U cT bG/\Ext β cT:=by
 have h0:VL cx B w' β hp [] β hp:=⟨nX,aA _,λ _ _=>⟨rfl,rfl⟩,λ _ _ h=>.inl h⟩
 cases d with
 |l x=>
  obtain⟨y,qC,O4,h1,h2,h3,h4⟩:=zhg (K:=λ y bG=>K (.l y) bG) cj hcx h0 hf (λ _ _ h=>by cases h) hk
  exact⟨.l y,qC,O4,_,h1,h2,h3,h4⟩
 |a cs=>
  obtain⟨us,e,hf⟩:=hf
  obtain⟨y,qC,O4,h1,h2,h3,h4⟩:=za9 (K:=λ y bG=>K (.a y) bG) cj hcx h0 hf hn (λ _ _ h=>by cases h) hk
  exact⟨.a y,qC,O4,_,h1,⟨us,e,h2⟩,h3,h4⟩
 |t cs=>
  obtain⟨us,e,hf⟩:=hf
  obtain⟨y,qC,O4,h1,h2,h3,h4⟩:=zba (K:=λ y bG=>K (.t y) bG) cj hcx h0 hf hn (λ _ _ h=>by cases h) hk
  exact⟨.t y,qC,O4,_,h1,⟨us,e,h2⟩,h3,h4⟩
theorem zhh(hI:Inv cx β hp w)(hb:cE w.heap.size w w'){d:DV}(hf:frV w' w.heap.size d v bs)(hn:bs.Nodup){K:AV->Hp->Prop}(hk:zmC hp d K){S:Nat->Prop}:
  ∃r bG cT,K r bG/\AC cx cT r v/\Out cx β hp w S cT bG w':=by
 obtain⟨r,bG,cT,U,h1,h2,h,hx⟩:=zo4 (λ k b h=>(hI.lt h).1) hI.kp.size (hI.stay hb) hf hn hk
 refine⟨r,bG,cT,h1,h2,h.inv,hx,λ k b hb=>(h.own k b hb).imp id And.left,hb.size,h.len,λ k hk _=>?_,λ b Uy _=>hb.block b Uy⟩
 unfold ownB
 rw[(h.pre k hk).1,(h.pre k hk).2]
theorem UE{f:ck}{sig:List (Sh⊕List Sh)}{S:DA sig->(DV->Prop)->Prop}(hfn:(P.funcs[f]?).map (λ fn=>(fn.name == "runtime.NumGoroutine",fn.body.isNone))=ab (aa,aa))(h:ji P f sig S):bW P f (dn sig S):=by
 refine⟨hfn,λ xs hp K hS cx β w vs hI gl ha=>?_⟩
 obtain⟨x,h1,h2⟩:=UF hI ha hS
 refine cR (h x _ h1 w vs h2 (gl.1.keep gl.2 hI.kp)) ?_
 rintro e w' ⟨d,v,rfl,h3,hb,bs,h4,h5⟩
 obtain⟨r,bG,cT,h6,h7,h8⟩:=zhh hI hb h4 h5 h3
 exact⟨v,r,bG,cT,rfl,h6,h7,h8⟩
end
end Ab
open Go.RowKit
namespace Ab
def Yw:List (Sh⊕List Sh)->Bool
 |[]=>ae
 |.inl .int::r=>Yw r
 |.inl .bool::r=>Yw r
 |.inr ss::r=>go ss && Yw r
 |_=>aa
 where
 go:List Sh->Bool
  |[]=>true
  |.int::r=>go r
  |.bool::r=>go r
  |_=>false
def zoG(T0:au)(w:ai)(r:Nat)(v:aj)(l:List UInt8)(p:Int):Prop:=
 w.heap[r]?=ab (.cells #[v,.int .i64 p] T0 (0,0))/\rdE w (.bytes l) v/\((EL.bytes l).len≠0->v.ownBlock≠ab r)
def Gn(P:aG)(f:ck)(T0:au)(sig:List (Sh⊕List Sh))(S:Int->DA sig->(DV->Int->Prop)->Prop):Prop:=∀(p:Int) (x:DA sig) (K:DV->Int->Prop),S p x K->∀(w:ai) (r:Nat) (v:aj) (l:List UInt8) (vs:Array aj),zoG T0 w r v l p->rdA w sig x vs.toList->Gw w->
 Calls P f (#[.pointer (ab ⟨r,0,ak⟩)]++vs) w λ e w'=>∃d u p',e=.returned u/\K d p'/\wa (λ b=>b=r) w w'/\w'.heap[r]?=ab (.cells #[v,.int .i64 p'] T0 (0,0))/\∃bs,frV w' w.heap.size d u bs/\bs.Nodup
def zuu(v0:aj)(l:List UInt8)(T0:au)(hp:Hp)(p':Int)(q:Prop):Prop:=wu hp 0 λ h=>match h with
 |.b cs T=>(match cs with
  |[x,.v (.int .i64 p)]=>az (x=.fx v0 (.bytes l)) <| az (p=p') <| az (cQ T T0=ae) q
  |_=>False)
 |_=>False
def zrd(c:LV)(K:Prop):Prop:=match c with
 |.fx _ (.bytes _)=>K
 |.f (.bytes _)=>K
 |_=>False
def jb (T0 : au) (sig : List (Sh ⊕ List Sh)) (S : Int → DA sig → (DV → Int → Prop) → Prop) : CS :=
  { S := fun xs hp K => match xs with
      | .l (.p k 0) :: r => wu hp k fun h => (match h with
        | .b cs T => (match cs with
          | [c, .v (.int .i64 p)] => zrd c <| az (cQ T T0 = ae) <| EX hp sig r fun x => S p x fun d p' => E1 hp k (.b [c, .v (.int .i64 p')] T) fun bG => zmC bG d K
          | _ => False)
        | _ => False)
      | _ => False
    C4 := fun xs => match xs with
      | .l (.p k _) :: _ => ab [k]
      | _ => ab [] }
section
variable{P:aG}{cx:Cx}{β:List En}{hp:Hp}{w:ai}
theorem W8:∀{ss:List Sh} {x:HL ss} {vs:List aj},Yw.go ss=ae->VV w ss x vs->jP cx β (zaM ss x) vs
 |[],_,[],_,_=>trivial
 |.int::r,x,v::vs,hs,h=>by
  have e:v=.int .i64 x.1:=h.1
  subst e
  exact⟨⟨rfl,rfl⟩,W8 (ss:=r) hs h.2⟩
 |.bool::r,x,v::vs,hs,h=>by
  have e:v=.bool x.1:=h.1
  subst e
  exact⟨⟨rfl,rfl⟩,W8 (ss:=r) hs h.2⟩
 |.ints::_,_,_,hs,_=>by cases hs
 |.bK::_,_,_,hs,_=>by cases hs
 |.bytes::_,_,_,hs,_=>by cases hs
 |[],_,_::_,_,h=>h.elim
 |.int::_,_,[],_,h=>h.elim
 |.bool::_,_,[],_,h=>h.elim
theorem WH:∀{sig:List (Sh⊕List Sh)} {x:DA sig} {vs:List aj},Yw sig=ae->rdA w sig x vs->Uv cx β (MW sig x) vs
 |[],_,[],_,_=>trivial
 |.inl .int::r,x,v::vs,hs,h=>by
  have e:v=.int .i64 x.1:=h.1
  subst e
  exact⟨⟨rfl,rfl⟩,WH (sig:=r) hs h.2⟩
 |.inl .bool::r,x,v::vs,hs,h=>by
  have e:v=.bool x.1:=h.1
  subst e
  exact⟨⟨rfl,rfl⟩,WH (sig:=r) hs h.2⟩
 |.inr ss::r,x,v::vs,hs,h=>by
  simp only[Yw,aE] at hs
  obtain⟨us,e,hu⟩:=h.1
  exact⟨⟨us,e,W8 hs.1 hu⟩,WH (sig:=r) hs.2 h.2⟩
 |.inl .ints::_,_,_,hs,_=>by cases hs
 |.inl .bK::_,_,_,hs,_=>by cases hs
 |.inl .bytes::_,_,_,hs,_=>by cases hs
 |[],_,_::_,_,h=>h.elim
 |.inl .int::_,_,[],_,h=>h.elim
 |.inl .bool::_,_,[],_,h=>h.elim
 |.inr _::_,_,[],_,h=>h.elim
variable{f:ck}
theorem zmQ{T:oU}{G:Env}{TR:Nat->Tr}{T0:au}{fn:fI}{sig:List (Sh⊕List Sh)}{S:Int->DA sig->(DV->Int->Prop)->Prop}(hT:jc P T)(hM:P.follows .mixedOrders=ae)(hG:bg P G)(hfn:P.funcs[f]?=ab fn)(hn:hY (sig.length+1) fn.ntmps=ae)(hs:Yw sig=ae)
  (h:∀(v0:aj) (l:List UInt8) (p:Int) (x:DA sig) (K:DV->Int->Prop),l.length<=pM->S p x K->xj sig x λ vs0=>zN T G 1 [0] TR fn (.l (.p 0 0)::vs0) [.b [.fx v0 (.bytes l),.v (.int .i64 p)] T0] λ r hp=>∃d p',zuu v0 l T0 hp p' (Pa hp r d)/\K d p'):Gn P f T0 sig S:=by
 intro p x K hS w r v l vs ⟨hb,hrd,fh⟩ hr hg
 have cj:r<w.heap.size:=(ah.1 hb).1
 have Ys:v.oneCell'=ae:=by obtain⟨a,c,rfl,_⟩:=hrd.1.form;rfl
 have hfx:LC ⟨w,[r]⟩ [.b r] (.fx v (.bytes l)) v:=⟨Ys,rfl,hrd.1,hrd.2,λ h0 b hb hm=>by
  simp only[List.mem_singleton] at hm
  exact fh h0 (by rw[hb,hm])⟩
 have hI:Inv ⟨w,[r]⟩ [.b r] [.b [.fx v (.bytes l),.v (.int .i64 p)] T0] w:=by
  refine⟨wa.refl _ _,rfl,λ k t e h1 h2=>?_,λ i k b h1 h2=>?_⟩
  ·cases k with
   |succ k=>simp at h1
   |zero=>
    simp only[bE,aF] at h1 h2
    subst h1 h2
    exact⟨.inr (by simp),_,hb,hfx,⟨rfl,rfl⟩,trivial⟩
  ·obtain⟨_,_,e1,_,_⟩:=mB h1
   obtain⟨_,_,e2,_,_⟩:=mB h2
   have:=(aO.1 e1).1
   have:=(aO.1 e2).1
   simp at *
   omega
 have hargs:Uv ⟨w,[r]⟩ [.b r] (.l (.p 0 0)::MW sig x) (#[oG (ab ⟨r,0,ak⟩)]++vs).toList:=by
  have:(#[oG (ab ⟨r,0,ak⟩)]++vs).toList=oG (ab ⟨r,0,ak⟩)::vs.toList:=by simp
  rw[this]
  exact⟨⟨rfl,r,rfl,rfl⟩,WH hs hr⟩
 refine cR (CN (W0:=[0]) hT ⟨hG,.inr ⟨hg,Gm.rd hg hb (by simp)⟩⟩ hM hfn hI hargs (by simp[tR];simpa using hn) (qM.1 (h v l p x K hrd.2 hS))) ?_
 rintro e w' ⟨u,ru,bG,cT,rfl,⟨d,p',h1,h2⟩,h3,nX,hL⟩
 obtain⟨t,g1,g2⟩:=iS.1 h1
 split at g2
 ·rename_i cs T1
  split at g2
  ·rename_i x1 p1
   obtain⟨g3,g4⟩:=ba.1 g2
   obtain⟨g5,g6⟩:=ba.1 g4
   obtain⟨g7,g8⟩:=ba.1 g6
   have hT0:=bf g7
   subst g3 g5 hT0
   obtain⟨bs,h4,h5⟩:=YM nX h3 g8
   have hx:=hL.ext 0 (.b r) (by simp) rfl
   have ho:=nX.OZ 0 _ _ g1 hx
   obtain⟨_,us,q1,q2⟩:=ho
   have hus:us=#[v,.int .i64 p1]:=by
    apply bk.1
    cases hu:us.toList with
    |nil=>rw[hu] at q2;exact q2.elim
    |cons a rest=>
     rw[hu] at q2
     cases rest with
     |nil=>exact q2.2.elim
     |cons b rest=>
      obtain⟨⟨_,e1,_⟩,⟨_,e2⟩,q3⟩:=q2
      cases rest with
      |nil=>rw[e1,e2]
      |cons _ _=>exact q3.elim
   subst hus
   refine⟨d,u,p1,rfl,h2,?_,q1,bs,h4,h5⟩
   exact nX.kp.mono λ b _ hb=>by simpa using hb
  ·exact g2.elim
 ·exact g2.elim
theorem zeL{c:LV}{K:Prop}(h:zrd c K):K/\∀v,LC cx β c v->∃l,FZ cx v (.bytes l):=by
 unfold zrd at h
 split at h
 ·exact⟨h,λ v hv=>⟨_,hv.2.2⟩⟩
 ·exact⟨h,λ v hv=>⟨_,hv.2⟩⟩
 ·exact h.elim
theorem tL{T0:au}{sig:List (Sh⊕List Sh)}{S:Int->DA sig->(DV->Int->Prop)->Prop}(hfn:(P.funcs[f]?).map (λ fn=>(fn.name == "runtime.NumGoroutine",fn.body.isNone))=ab (aa,aa))(h:Gn P f T0 sig S):bW P f (jb T0 sig S):=by
 refine⟨hfn,λ xs hp K hS cx β w vs hI gl ha=>?_⟩
 simp only[jb] at hS
 split at hS
 ·rename_i k r
  obtain⟨t,g1,g2⟩:=iS.1 hS
  split at g2
  ·rename_i cs T1
   split at g2
   ·rename_i cl p
    obtain⟨g2',hby⟩:=zeL (cx:=cx) (β:=β) g2
    obtain⟨g3,g4⟩:=ba.1 g2'
    have hT0:=bf g3
    subst hT0
    cases yB:vs.toList with
    |nil=>rw[yB] at ha;exact ha.elim
    |cons a0 rest=>
     rw[yB] at ha
     obtain⟨⟨_,n,hn,rfl⟩,ha⟩:=ha
     have ho:=hI.OZ k _ _ g1 hn
     obtain⟨zeh,us,hb,hc⟩:=ho
     have hus:∃v,us=#[v,.int .i64 p]/\LC cx β cl v:=by
      cases hu:us.toList with
      |nil=>rw[hu] at hc;exact hc.elim
      |cons a rest=>
       rw[hu] at hc
       cases rest with
       |nil=>exact hc.2.elim
       |cons b rest=>
        obtain⟨o1,⟨_,e3⟩,q3⟩:=hc
        cases rest with
        |nil=>exact⟨a,bk.1 (by rw[hu,e3]),o1⟩
        |cons _ _=>exact q3.elim
     obtain⟨v,rfl,hfx⟩:=hus
     obtain⟨l,hfz⟩:=hby v hfx
     obtain⟨x,h1,h2⟩:=UF hI ha g4
     have zzl:zoG T1 w n v l p:=by
      refine⟨hb,⟨hfz.sl hI,hfz.2.1⟩,λ h0 e=>?_⟩
      have hM:=hfz.2.2 h0 n e
      have cj:n<cx.w0.heap.size:=by
       rcases hfz.1.2 with⟨e0,_⟩|⟨g',MZ,V2,cur,T',e0,_,e1,_⟩
       ·exact absurd e0 h0
       ·rw[e0] at e
        simp only[qf,aF] at e
        subst e
        exact(ah.1 e1).1
      rcases zeh with h3|h3
      ·omega
      ·exact hM h3
     have DJ:=h p x _ h1 w n v l rest.toArray zzl (by simpa using h2) (gl.1.keep gl.2 hI.kp)
     have hargs:(#[oG (ab ⟨n,0,ak⟩)]++rest.toArray)=vs:=by
      apply bk.1
      simp[yB]
     rw[hargs] at DJ
     refine cR DJ ?_
     rintro e w' ⟨d,u,p',rfl,h3,ht,Uy,bs,h4,h5⟩
     obtain⟨O0,h6⟩:=nq.1 h3
     have dY:ownB hp β k=ab n:=by rw[ownB_of g1 hn];rfl
     have hO:Out cx β hp w (ST (ab [k])) β (hp.set k (.b [cl,.v (.int .i64 p')] T1)) w':=by
      refine Out.upd (k0:=k) (h':=.b [cl,.v (.int .i64 p')] T1) (e':=.b n) hI (by simp[ST]) (ht.mono λ b _ e=>by rw[dY,e]) (λ i hi=>⟨cd (dr hi),rfl⟩) (by simp[O0]) hn (by simp[hI.len]) (by simp) (Ext.refl _)
       ⟨zeh,_,Uy,hfx,⟨rfl,rfl⟩,trivial⟩ (λ b hb=>.inl (by rw[dY];exact hb))
     have cj:∀i b,ownB (hp.set k (.b [cl,.v (.int .i64 p')] T1)) β i=ab b->b<w.heap.size:=by
      intro i b hb
      by_cases hik:i=k
      ·subst hik
       rw[ownB_of (x:=.b [cl,.v (.int .i64 p')] T1) (by simp[O0]) hn] at hb
       have:ab n=ab b:=hb
       simp only[aF] at this
       subst this
       exact(hI.lt dY).1
      ·have:ownB hp β i=ab b:=by
        unfold ownB at hb ⊢
        rw[cd (dr hik)] at hb
        exact hb
       exact(hI.lt this).1
     obtain⟨ru,qC,O4,U,i1,i2,i3,i4⟩:=zo4 cj hI.kp.size hO.inv h4 h5 h6
     refine⟨u,ru,qC,O4,rfl,i1,i2,⟨i3.inv,i4,λ i b hb=>?_,hO.size,by have:=i3.len;simp at this;exact this,λ i hi hn'=>?_,hO.C4⟩⟩
     ·rcases i3.own i b hb with h7|h7
      ·exact hO.om i b h7
      ·exact .inr h7.1
     ·have X8:i<(hp.set k (.b [cl,.v (.int .i64 p')] T1)).length:=by simpa using hi
      have h7:ownB qC O4 i=ownB (hp.set k (.b [cl,.v (.int .i64 p')] T1)) β i:=by
       unfold ownB
       rw[(i3.pre i X8).1,(i3.pre i X8).2]
      rw[h7]
      exact hO.own i hi hn'
   ·exact g2.elim
  ·exact g2.elim
 ·exact hS.elim
def csI(T:oU)(G:Env)(TR:Nat->Tr)(fn:fI):CS:=
 { S:=λ xs hp K=>az (hY xs.length fn.ntmps=ae) <| JD (SO hp) λ n=>zN T G n [] TR fn xs hp K,C4:=λ _=>ak }
theorem zrC{T:oU}{G:Env}{TR:Nat->Tr}{fn:fI}(hT:jc P T)(hM:P.follows .mixedOrders=ae)(hG:bg P G)(hfn:P.funcs[f]?=ab fn)(fc:(P.funcs[f]?).map (λ fn=>(fn.name == "runtime.NumGoroutine",fn.body.isNone))=ab (aa,aa)):bW P f (csI T G TR fn):=by
 refine⟨fc,λ xs hp K hS cx β w vs hI gl ha=>?_⟩
 obtain⟨h1,h2⟩:=ba.1 hS
 have h3:=pX.1 h2
 rw[Cy] at h3
 refine cR (CN (W0:=[]) hT ⟨hG,.inr gl⟩ hM hfn hI ha (by simpa using h1) h3) ?_
 rintro e w' ⟨v,r,bG,cT,rfl,h4,h5,h6,h7⟩
 refine⟨v,r,bG,cT,rfl,h4,h5,⟨h6,λ k e he=>?_,λ k b hb=>(h7.om k b hb).imp And.right id,h7.size,h7.len,λ k _ hn=>(hn trivial).elim,λ b hb hn=>h7.C4 b hb λ k=>hn k trivial⟩⟩
 exact h7.ext k e (by rw[<-hI.len];exact(aO.1 he).1) he
def zhD(P:aG):oU->Prop
 |[]=>True
 |(t,i)::r=>dJ P t i/\zhD P r
theorem Vu:∀{T:oU},zhD P T->jc P T
 |[],_,t,i,h=>by simp[tyL] at h
 |(t',i')::r,h,t,i,hi=>by
  simp only[tyL] at hi
  split at hi
  ·rename_i e
   subst e
   obtain rfl:=fS hi
   exact h.1
  ·exact Vu h.2 t i hi
def zhC(P:aG):Env->Prop
 |[]=>True
 |(f,c)::r=>bW P f c/\zhC P r
theorem aC:∀{G:Env},zhC P G->bg P G
 |[],_,f,c,h=>by cases h
 |(f',c')::r,h,f,c,hm=>by
  rcases bF.1 hm with e|e
  ·obtain⟨rfl,rfl⟩:=Prod.mk.inj e
   exact h.1
  ·exact aC h.2 f c e
def zgY(w:ai)(v:aj):Prop:=∃a n cap,v=.slice a n cap/\(n<=1048576->∃l:List UInt8,rdE w (.bytes l) v)
end
end Ab
open Go.RowKit
namespace Ab
def zuP:{f:oU->Env->List di->List di->Fr->Hp->(Fr->Hp->Prop)->Prop // f=@SS}:=by
 refine⟨?f,?h⟩
 rotate_left
 ·delta SS SS._f
  exact rfl
def zrf:=zuP.1
theorem zdA:@zrf=@SS:=zuP.2
def zo6:{f:oU->Env->List di->Nat×List Nat->Nat->Tr->Fr->Hp->(Fr->Hp->Prop)->Prop // f=@DK}:=by
 refine⟨?f,?h⟩
 rotate_left
 ·delta DK DK._f
  exact rfl
def zvP:=zo6.1
theorem ziO:@zvP=@DK:=zo6.2
def zpg:{f:oU->Env->List di->Nat×List Nat->Nat->Tr->Fr->Hp->(Fr->Hp->Prop)->Prop // f=@rP}:=by
 refine⟨?f,?h⟩
 rotate_left
 ·delta rP rP._f
  rw[<-ziO]
def zv6:=zpg.1
theorem zjH:@zv6=@rP:=zpg.2
def zoP:{f:oU->Env->Nat->List Nat->(Nat->Tr)->Code->Go1 // f=@exec}:=by
 refine⟨?f,?h⟩
 rotate_left
 ·delta exec exec._f
  rw[<-zjH,<-zdA]
def DI:=zoP.1
theorem Zc:@DI=@exec:=zoP.2
def zK(T:oU)(G:Env)(N:Nat)(W0:List Nat)(TR:Nat->Tr)(fn:fI)(vs0:List AV)(hp:Hp)(K:AV->Hp->Prop):Prop:=match fn.body with
 |none=>False
 |some c=>DI T G N W0 TR c (C8 fn.ntmps vs0) hp λ e bx bG=>(match e with
  |.n=>Wb T bx bG fn.results.toList λ r=>K r bG
  |.r=>Wb T bx bG fn.results.toList λ r=>K r bG
  |.x _=>False)
theorem xn:@zK=@zN:=by
 funext T G N W0 TR fn vs0 hp K
 unfold zK zN
 rw[Zc]
 rfl
variable{α:Type _}
theorem la{a b:List α}:(a++b).length=a.length+b.length:=dp
theorem ln:([]:List α).length=0:=rfl
theorem lc{a:α}{l:List α}:(a::l).length=l.length+1:=rfl
variable{n:Nat}
theorem ld{l:List α}:(l.drop n).length=l.length-n:=iF
theorem lt{l:List α}:(l.take n).length=min n l.length:=dm
theorem ls{a:α}{l:List α}:(l.set n a).length=l.length:=List.length_set
theorem lna{l:List α}:[]++l=l:=rfl
variable{b:Bool}
theorem bnF(h:b=aa)(k:b=ae):False:=by rw[h] at k;cases k
theorem bnT(h:b=ae)(k:b=aa):False:=by rw[h] at k;cases k
variable{p:Prop}
theorem WI{q:Prop}(h:az p q):p:=by cases h;assumption
theorem WJ{q:Prop}(h:az p q):q:=by cases h;assumption
theorem Wt{q:Prop}(h:Fork p q):q:=by cases h;assumption
theorem zcT(h:Ab.End p):p:=by cases h;assumption
variable{t:Bool}
theorem zuq{q:Prop}(h:Br t p q)(e:t=ae):p:=by cases h with|mk a b=>exact a e
theorem zur{q:Prop}(h:Br t p q)(e:t=aa):q:=by cases h with|mk a b=>exact b e
theorem brS:(∀(p:Prop) [Decidable p],(decide p=ae)=p)/\(∀(p:Prop) [Decidable p],(decide p=aa)=¬p)/\(∀b:Bool,((!b)=ae)=(b=aa))/\(∀b:Bool,((!b)=aa)=(b=ae))/\(∀a b:Bool,((!a)=b)=(a=!b))/\((!ae)=aa)/\((!aa)=ae)/\(∀a b:Bool,((a && b)=ae)=(a=ae/\b=ae))/\(∀a b:Bool,((a && b)=aa)=(a=aa\/b=aa))/\(∀a b:Bool,((a || b)=ae)=(a=ae\/b=ae))/\(∀a b:Bool,((a || b)=aa)=(a=aa/\b=aa))/\((¬True)=False)/\(∀p:Prop,(p/\p)=p)/\((ae=aa)=False)/\((aa=ae)=False)/\((¬False)=True):=
 ⟨by simp,by simp,by simp,by simp,by simp,rfl,rfl,by simp,by simp,by simp,by simp,by simp,by simp,by simp,by simp,by simp⟩
theorem gQ:(∀p:Prop,(p/\p)=p)/\((!ae)=aa)/\((!aa)=ae)/\(∀b:Bool,(b && ae)=b)/\(∀b:Bool,(ae && b)=b)/\(∀b:Bool,(b || false)=b)/\(∀b:Bool,(aa || b)=b)/\((¬True)=False)/\((¬False)=True)/\(∀[Decidable True],decide True=ae)/\(∀[Decidable False],decide False=aa)/\(∀n:Int,(n == n)=ae)/\(∀n:Bool,(n == n)=ae):=
 ⟨by simp,rfl,rfl,by simp,by simp,by simp,by simp,by simp,by simp,by simp,by simp,by simp,by simp⟩
theorem gS(h:p:=by (first|omega|with_reducible assumption|kernel_rfl|exact rfl|(with_reducible first|omega|exact Wf (by omega)|(and_intros<;>first|trivial|omega|exact Wf (by omega)))|(dsimp only[EL.len];with_reducible first|omega|exact Wf (by omega)|(and_intros<;>first|trivial|omega|exact Wf (by omega)))|with_reducible exact zzJ (by omega)|with_reducible exact Wf ⟨by decide,by decide⟩|exact⟨rfl,trivial⟩|exact⟨rfl,rfl,trivial⟩|exact⟨⟨rfl,rfl,rfl,rfl⟩,trivial⟩|(show (_:Int)<=_/\(_:Int)<=_;omega)|(show (_:Int)<=_;omega)|(simp only[EL.len,EL.sz,EL.take,EL.drop,pM,la,ln,lc,ld,lt,ls,lna];with_reducible first|omega|exact Wf (by omega)|(and_intros<;>first|trivial|omega|exact Wf (by omega)))|(simp only[EL.len,EL.sz,EL.take,EL.drop,pM,la,ln,lc,ld,lt,ls,lna] at *;with_reducible first|omega|exact Wf (by omega)|(and_intros<;>first|trivial|omega|exact Wf (by omega))))):p:=h
theorem gR(h:p:=by first|exact aV|with_reducible exact rfl|exact Eq.refl ae|exact Eq.refl aa):p:=h
theorem gV(h:p:=by first|kernel_rfl|exact rfl|exact⟨rfl,trivial⟩|exact λ _ h=>h|exact⟨⟨rfl,rfl,rfl,rfl⟩,trivial⟩|exact⟨⟨rfl,rfl⟩,rfl,rfl⟩|exact⟨rfl,rfl,trivial⟩):p:=h
theorem gA(h:p:=by first|exact Eq.refl ae|exact Eq.refl aa|with_reducible assumption):p:=h
@[reducible] def zzK(b:Bool)(p q:Prop):Prop:=match b with|true=>p|false=>q
theorem gU{q:Prop}(h:t=b)(k:zzK b p q):Br t p q:=by
 subst h;cases t
 ·exact brF k
 ·exact brT k
def ja:Nat->Tr:=λ _=>.nil
theorem gl{α:Type}(l:List α)(h:l.length<=1099511627776):l.length<=1099511627776:=h
theorem gB{q h1 h2:Prop}(a:t=ae->h1->p)(b:t=aa->h2->q)(e1:t=ae->h1:=by intro h;first|((try simp only[brS] at h);(try dsimp only[EL.len] at h);exact h)|exact(show False by simp only[brS] at h)|exact h)(e2:t=aa->h2:=by intro h;first|((try simp only[brS] at h);(try dsimp only[EL.len] at h);exact h)|exact(show False by simp only[brS] at h)|exact h):Br t p q:=.mk (λ e=>a e (e1 e)) (λ e=>b e (e2 e))
theorem gI{D:Type}{M K:D->Prop}{d:D}(hK:K d)(h:M d):∃d,M d/\K d:=⟨d,h,hK⟩
theorem gF{D:Type}{M K:D->Prop}{d:D}(hK:K d)(h:M d:=by (repeat' first|exact gR|refine az.mk ?_ ?_);all_goals (first|exact rfl|(simp;done))):∃d,M d/\K d:=⟨d,h,hK⟩
theorem c8{r:Prop}(f:False:=by first|omega|exact bnF (by with_reducible assumption) (by with_reducible assumption)|exact bnT (by with_reducible assumption) (by with_reducible assumption)):r:=f.elim
theorem zaN(h:p:=by intro K' hF;(conv at hF=>whnf);(repeat ((first|(have hs:=WI hF;replace hF:=WJ hF)|(replace hF:=Wt hF)|((repeat ((conv=>whnf);(refine az.mk ?_ ?_;exact gS)));(conv=>whnf);(refine λ(y:Int) (h0:0<=y) h1=>?_);replace hF:=hF y h0 h1));(conv at hF=>whnf)));replace hF:=zcT hF;(repeat' ((conv=>whnf);first|refine az.mk ?_ ?_;exact gS|(refine End.mk ?_;exact hF)  | refine End.mk ?_|apply gU;exact gA|refine gB ?_ ?_<;>intro hb h<;>try exact c8|refine λ(y:Int) (h0:0<=y) h1=>?_));done):p:=h
theorem ER(h:p:=by intro K' hF;(conv at hF=>whnf);(repeat ((first|(have hs:=WI hF;replace hF:=WJ hF)|(replace hF:=Wt hF)|((repeat ((conv=>whnf);first|refine az.mk ?_ ?_;exact gS|refine Fork.mk ?_ ?_;exact zaN));(conv=>whnf);(refine λ(y:Int) (h0:0<=y) h1=>?_);replace hF:=hF y h0 h1));(conv at hF=>whnf)));replace hF:=zcT hF;(repeat' ((conv=>whnf);first|refine az.mk ?_ ?_;exact gS|refine Fork.mk ?_ ?_;exact zaN|(refine End.mk ?_;exact hF)  | refine End.mk ?_|apply gU;exact gA|refine gB ?_ ?_<;>intro hb h<;>try exact c8|refine λ(y:Int) (h0:0<=y) h1=>?_));done):p:=h
theorem zDT(h:p:=by intro K' hF;(conv at hF=>whnf);(repeat ((first|(have hs:=WI hF;replace hF:=WJ hF)|(replace hF:=Wt hF)|((repeat ((conv=>whnf);first|refine az.mk ?_ ?_;exact gS|refine Fork.mk ?_ ?_;exact zaN));(conv=>whnf);(refine λ(y:Int) (h0:0<=y) h1=>?_);replace hF:=hF y h0 h1)|((repeat ((conv=>whnf);first|refine az.mk ?_ ?_;exact gS|refine Fork.mk ?_ ?_;exact zaN));(conv=>whnf);(refine vg (by with_reducible assumption) ?_);replace hF:=zuq hF (by with_reducible assumption))|((repeat ((conv=>whnf);first|refine az.mk ?_ ?_;exact gS|refine Fork.mk ?_ ?_;exact zaN));(conv=>whnf);(refine vf (by with_reducible assumption) ?_);replace hF:=zur hF (by with_reducible assumption)));(conv at hF=>whnf)));replace hF:=zcT hF;(repeat' ((conv=>whnf);first|refine az.mk ?_ ?_;exact gS|refine Fork.mk ?_ ?_;exact zaN|(refine End.mk ?_;exact hF)  | refine End.mk ?_|apply gU;exact gA|refine gB ?_ ?_<;>intro hb h<;>try exact c8|refine λ(y:Int) (h0:0<=y) h1=>?_));done):p:=h
theorem Yr(h:p:=by intro K' hF;(conv at hF=>whnf);(repeat ((first|(have hs:=WI hF;replace hF:=WJ hF)|(replace hF:=Wt hF)|((repeat ((conv=>whnf);(refine az.mk ?_ ?_;exact gS)));(conv=>whnf);(refine λ(y:Int) (h0:0<=y) h1=>?_);replace hF:=hF y h0 h1)|((repeat ((conv=>whnf);(refine az.mk ?_ ?_;exact gS)));(conv=>whnf);(refine vg (by with_reducible assumption) ?_);replace hF:=zuq hF (by with_reducible assumption))|((repeat ((conv=>whnf);(refine az.mk ?_ ?_;exact gS)));(conv=>whnf);(refine vf (by with_reducible assumption) ?_);replace hF:=zur hF (by with_reducible assumption)));(conv at hF=>whnf)));replace hF:=zcT hF;(repeat' ((conv=>whnf);first|refine az.mk ?_ ?_;exact gS|refine Fork.mk ?_ ?_;exact zaN|(refine End.mk ?_;exact hF)  | refine End.mk ?_|apply gU;exact gA|refine gB ?_ ?_<;>intro hb h<;>try exact c8|refine λ(y:Int) (h0:0<=y) h1=>?_));done):p:=h
abbrev lR:Sh⊕List Sh:=.inr [.int,.int,.int,.int,.int,.int,.int,.bK,.bool,.int,.int,.ints,.int,.int,.bool,.bool,.bool,.bool]
abbrev Pf:Sh⊕List Sh:=.inr [.int,.int,.int,.int,.int,.int,.int,.bK,.bool,.int,.int,.ints,.int,.int,.bool,.bool,.bool,.bool,.int,.int,.int,.int,.int,.int,.int,.bK,.bool,.int,.int,.ints,.int,.int,.bool,.bool,.bool,.bool]
abbrev oc:Sh⊕List Sh:=.inr [.int,.int,.int,.int,.int,.int,.int,.bK,.bool,.int,.int,.ints,.int,.int,.bool,.bool,.bool,.bool,.ints,.ints,.int,.int]
abbrev qx:Sh⊕List Sh:=.inr [.int,.int,.int,.int,.int,.int,.int,.bK,.bool,.int,.int,.ints,.int,.int,.bool,.bool,.bool,.bool,.ints,.ints,.int,.int,.int,.int,.int,.int,.int,.int,.int,.bK,.bool,.int,.int,.ints,.int,.int,.bool,.bool,.bool,.bool,.ints,.ints,.int,.int]
theorem gW(h:p:=by (repeat' ((conv=>whnf);first|refine az.mk ?_ ?_;exact gS|refine End.mk ?_|apply gU;exact gA|refine gB ?_ ?_<;>intro hb h<;>try exact c8|refine λ(y:Int) (h0:0<=y) h1=>?_));all_goals exact gF (by assumption)):p:=h
theorem gWf(h:p:=by (repeat' ((conv=>whnf);first|refine az.mk ?_ ?_;exact gS|refine Fork.mk ?_ ?_;exact ER|refine End.mk ?_|apply gU;exact gA|refine gB ?_ ?_<;>intro hb h<;>try exact c8|refine λ(y:Int) (h0:0<=y) h1=>?_));all_goals exact gF (by assumption)):p:=h
section
variable{P:aG}
variable{G:Env}{TR:Nat->Tr}{f:ck}{fn:fI}{sig:List (Sh⊕List Sh)}
theorem bh{T:oU}{S:DA sig->(DV->Prop)->Prop}(hT:jc P T)(hM:P.follows .mixedOrders=ae)(hG:bg P G)(hfn:P.funcs[f]?=ab fn)(hn:hY sig.length fn.ntmps=ae)
  (h:∀(x:DA sig) (K:DV->Prop),S x K->bdA sig x->xj sig x λ vs0=>zK T G 0 [] TR fn vs0 [] λ r hp=>∃d,Pa hp r d/\K d):ji P f sig S:=by
 rw[xn] at h
 exact zrB hT hM hG hfn hn h
theorem np{T:oU}{T0:au}{S:Int->DA sig->(DV->Int->Prop)->Prop}(hT:jc P T)(hM:P.follows .mixedOrders=ae)(hG:bg P G)(hfn:P.funcs[f]?=ab fn)(hn:hY (sig.length+1) fn.ntmps=ae)(hs:Yw sig=ae)
  (h:∀(v0:aj) (l:List UInt8) (p:Int) (x:DA sig) (K:DV->Int->Prop),l.length<=pM->S p x K->xj sig x λ vs0=>zK T G 1 [0] TR fn (.l (.p 0 0)::vs0) [.b [.fx v0 (.bytes l),.v (.int .i64 p)] T0] λ r hp=>∃d p',zuu v0 l T0 hp p' (Pa hp r d)/\K d p'):Gn P f T0 sig S:=by
 rw[xn] at h
 exact zmQ hT hM hG hfn hn hs h
theorem zFQ{cx:Cx}{β:List En}{hp:Hp}{w:ai}{T:oU}(hT:jc P T)(hM:P.follows .mixedOrders=ae)(hG:AN P G cx){W0:List Nat}(hfn:P.funcs[f]?=ab fn){xs:List AV}{vs:Array aj}{K:AV->Hp->Prop}
  (hI:Inv cx β hp w) (ha:Uv cx β xs vs.toList) (hn:hY xs.length fn.ntmps=ae) (h:zK T G hp.length W0 TR fn xs hp K):
  Calls P f vs w λ e w'=>∃v r bG cT,e=.returned v/\K r bG/\AC cx cT r v/\Inv cx cT bG w'/\Lk β hp w cT bG w':=by
 rw[xn] at h
 exact CN hT hG hM hfn hI ha (by simpa using hn) h
def Jt(T:oU)(G:Env)(TR:Nat->Tr)(fn:fI):CS:=
 { S:=λ xs hp K=>az (hY xs.length fn.ntmps=ae) <| JD (SO hp) λ n=>zK T G n [] TR fn xs hp K,C4:=λ _=>ak }
theorem zhO{T:oU}(hT:jc P T)(hM:P.follows .mixedOrders=ae)(hG:bg P G)(hfn:P.funcs[f]?=ab fn)(fc:(P.funcs[f]?).map (λ fn=>(fn.name == "runtime.NumGoroutine",fn.body.isNone))=ab (aa,aa)):bW P f (Jt T G TR fn):=by
 have e:Jt T G TR fn=csI T G TR fn:=by
  unfold Jt csI
  rw[xn]
 rw[e]
 exact zrC hT hM hG hfn fc
theorem bH{S:DA sig->(DV->Prop)->Prop}(h:ji P f sig S)(hfn:(P.funcs[f]?).map (λ fn=>(fn.name == "runtime.NumGoroutine",fn.body.isNone))=ab (aa,aa):=by kernel_rfl):bW P f (dn sig S):=UE hfn h
theorem iy{T:oU}(hT:jc P T)(hM:P.follows .mixedOrders=ae)(hG:bg P G)(hfn:P.funcs[f]?=ab fn)(fc:(P.funcs[f]?).map (λ fn=>(fn.name == "runtime.NumGoroutine",fn.body.isNone))=ab (aa,aa):=by kernel_rfl):bW P f (Jt T G TR fn):=zhO hT hM hG hfn fc
end
end Ab
open Go.RowKit
open Ab
def ty2:TI:=⟨1,aa,[.int .i64 0],[.v (.int .i64 0)],8,.int .i64,ak,[]⟩
theorem zsk:dJ al.prog 2 ty2:=⟨ gK,gK,rfl,rfl,rfl,by show al.prog.underlying 2=ab (qc .i64);kernel_rfl,(λ ks h=>by cases h),λ m h=>by cases h⟩
def ty3:TI:=⟨1,aa,[.int .i64 0],[.v (.int .i64 0)],8,.int .i64,ak,[]⟩
theorem zsl:dJ al.prog 3 ty3:=⟨ gK,gK,rfl,rfl,rfl,by show al.prog.underlying 3=ab (qc .i64);kernel_rfl,(λ ks h=>by cases h),λ m h=>by cases h⟩
def ty4:TI:=⟨1,aa,[.bool aa],[.v (.bool aa)],1,.bool,ak,[]⟩
theorem zsm:dJ al.prog 4 ty4:=⟨ gK,gK,rfl,rfl,rfl,by show al.prog.underlying 4=ab TypeDesc.bool;kernel_rfl,(λ ks h=>by cases h),λ m h=>by cases h⟩
def ty5:TI:=⟨1,aa,[.int .u8 0],[.v (.int .u8 0)],1,.int .u8,ak,[]⟩
theorem zsn:dJ al.prog 5 ty5:=⟨ gK,gK,rfl,rfl,rfl,by show al.prog.underlying 5=ab (qc .u8);kernel_rfl,(λ ks h=>by cases h),λ m h=>by cases h⟩
def ty9:TI:=⟨1,aa,[.string ⟨#[]⟩],[.v (.string ⟨#[]⟩)],16,.str,ak,[]⟩
theorem zso:dJ al.prog 9 ty9:=⟨ gK,gK,rfl,rfl,rfl,by show al.prog.underlying 9=ab TypeDesc.string;kernel_rfl,(λ ks h=>by cases h),λ m h=>by cases h⟩
def zuX:TI:=⟨1,aa,[.int .u64 0],[.v (.int .u64 0)],8,.int .u64,ak,[]⟩
theorem znL:dJ al.prog 12 zuX:=⟨ gK,gK,rfl,rfl,rfl,by show al.prog.underlying 12=ab (qc .u64);kernel_rfl,(λ ks h=>by cases h),λ m h=>by cases h⟩
def zuY:TI:=⟨1,aa,[.pointer ak],[.v (.pointer ak)],8,.ptr 305,ak,[]⟩
theorem znM:dJ al.prog 15 zuY:=⟨ gK,gK,rfl,rfl,rfl,by show al.prog.underlying 15=ab (bQ 305);kernel_rfl,(λ ks h=>by cases h),λ m h=>by cases h⟩
def zuZ:TI:=⟨1,aa,[.pointer ak],[.v (.pointer ak)],8,.ptr 308,ak,[]⟩
theorem znN:dJ al.prog 16 zuZ:=⟨ gK,gK,rfl,rfl,rfl,by show al.prog.underlying 16=ab (bQ 308);kernel_rfl,(λ ks h=>by cases h),λ m h=>by cases h⟩
def zu0:TI:=⟨1,aa,[.pointer ak],[.v (.pointer ak)],8,.ptr 316,ak,[]⟩
theorem znO:dJ al.prog 17 zu0:=⟨ gK,gK,rfl,rfl,rfl,by show al.prog.underlying 17=ab (bQ 316);kernel_rfl,(λ ks h=>by cases h),λ m h=>by cases h⟩
def zu1:TI:=⟨1,aa,[.slice ak 0 0],[.v (.slice ak 0 0)],24,.slice 5 1 .bytes,ak,[]⟩
theorem znP:dJ al.prog 22 zu1:=⟨ gK,gK,rfl,rfl,rfl,⟨ gK,gK,gK,rfl⟩,(λ ks h=>by cases h),λ m h=>by cases h⟩
def zu2:TI:=⟨3,ae,[.int .i64 0,.int .i64 0,.int .i64 0],[.v (.int .i64 0),.v (.int .i64 0),.v (.int .i64 0)],24,.struct [(0,1,aa),(1,1,aa),(2,1,aa)],ab [ab .i64,ab .i64,ab .i64],[]⟩
theorem znQ:dJ al.prog 24 zu2:=⟨ gK,gK,rfl,rfl,rfl,⟨ gK,gK⟩,(λ ks h=>by cases h;exact⟨ gK,gK,gK,gK⟩),λ m h=>by cases h⟩
def zu3:TI:=⟨1,aa,[.slice ak 0 0],[.v (.slice ak 0 0)],24,.slice 96 2 .bK,ak,[]⟩
theorem znR:dJ al.prog 25 zu3:=⟨ gK,gK,rfl,rfl,rfl,⟨ gK,gK,gK,rfl⟩,(λ ks h=>by cases h),λ m h=>by cases h⟩
def zu4:TI:=⟨5,ae,[.int .i64 0,.int .i64 0,.slice ak 0 0,.bool aa,.int .i64 0],[.v (.int .i64 0),.v (.int .i64 0),.v (.slice ak 0 0),.v (.bool aa),.v (.int .i64 0)],56,.struct [(0,1,aa),(1,1,aa),(2,1,aa),(3,1,aa),(4,1,aa)],ak,[]⟩
theorem znS:dJ al.prog 27 zu4:=⟨ gK,gK,rfl,rfl,rfl,⟨ gK,gK⟩,(λ ks h=>by cases h),λ m h=>by cases h⟩
def zu5:TI:=⟨1,aa,[.slice ak 0 0],[.v (.slice ak 0 0)],24,.slice 3 1 .ints,ak,[]⟩
theorem znT:dJ al.prog 28 zu5:=⟨ gK,gK,rfl,rfl,rfl,⟨ gK,gK,gK,rfl⟩,(λ ks h=>by cases h),λ m h=>by cases h⟩
def zu6:TI:=⟨4,ae,[.int .i64 0,.slice ak 0 0,.int .i64 0,.int .i64 0],[.v (.int .i64 0),.v (.slice ak 0 0),.v (.int .i64 0),.v (.int .i64 0)],48,.struct [(0,1,aa),(1,1,aa),(2,1,aa),(3,1,aa)],ak,[]⟩
theorem znU:dJ al.prog 30 zu6:=⟨ gK,gK,rfl,rfl,rfl,⟨ gK,gK⟩,(λ ks h=>by cases h),λ m h=>by cases h⟩
def zu7:TI:=⟨4,ae,[.bool aa,.bool aa,.bool aa,.bool aa],[.v (.bool aa),.v (.bool aa),.v (.bool aa),.v (.bool aa)],4,.struct [(0,1,aa),(1,1,aa),(2,1,aa),(3,1,aa)],ab [ak,ak,ak,ak],[]⟩
theorem znV:dJ al.prog 32 zu7:=⟨ gK,gK,rfl,rfl,rfl,⟨ gK,gK⟩,(λ ks h=>by cases h;exact⟨ gK,gK,gK,gK⟩),λ m h=>by cases h⟩
def zu8:TI:=⟨18,ae,[.int .i64 0,.int .i64 0,.int .i64 0,.int .i64 0,.int .i64 0,.int .i64 0,.int .i64 0,.slice ak 0 0,.bool aa,.int .i64 0,.int .i64 0,.slice ak 0 0,.int .i64 0,.int .i64 0,.bool aa,.bool aa,.bool aa,.bool aa],[.v (.int .i64 0),.v (.int .i64 0),.v (.int .i64 0),.v (.int .i64 0),.v (.int .i64 0),.v (.int .i64 0),.v (.int .i64 0),.v (.slice ak 0 0),.v (.bool aa),.v (.int .i64 0),.v (.int .i64 0),.v (.slice ak 0 0),.v (.int .i64 0),.v (.int .i64 0),.v (.bool aa),.v (.bool aa),.v (.bool aa),.v (.bool aa)],152,.struct [(0,3,ae),(3,1,aa),(4,1,aa),(5,5,ae),(10,4,ae),(14,4,ae)],ak,[]⟩
theorem znW:dJ al.prog 34 zu8:=⟨ gK,gK,rfl,rfl,rfl,⟨ gK,gK⟩,(λ ks h=>by cases h),λ m h=>by cases h⟩
def zu9:TI:=⟨22,ae,[.int .i64 0,.int .i64 0,.int .i64 0,.int .i64 0,.int .i64 0,.int .i64 0,.int .i64 0,.slice ak 0 0,.bool aa,.int .i64 0,.int .i64 0,.slice ak 0 0,.int .i64 0,.int .i64 0,.bool aa,.bool aa,.bool aa,.bool aa,.slice ak 0 0,.slice ak 0 0,.int .i64 0,.int .i64 0],[.v (.int .i64 0),.v (.int .i64 0),.v (.int .i64 0),.v (.int .i64 0),.v (.int .i64 0),.v (.int .i64 0),.v (.int .i64 0),.v (.slice ak 0 0),.v (.bool aa),.v (.int .i64 0),.v (.int .i64 0),.v (.slice ak 0 0),.v (.int .i64 0),.v (.int .i64 0),.v (.bool aa),.v (.bool aa),.v (.bool aa),.v (.bool aa),.v (.slice ak 0 0),.v (.slice ak 0 0),.v (.int .i64 0),.v (.int .i64 0)],216,.struct [(0,18,ae),(18,1,aa),(19,1,aa),(20,1,aa),(21,1,aa)],ak,[]⟩
theorem znX:dJ al.prog 36 zu9:=⟨ gK,gK,rfl,rfl,rfl,⟨ gK,gK⟩,(λ ks h=>by cases h),λ m h=>by cases h⟩
def zva:TI:=⟨44,ae,[.int .i64 0,.int .i64 0,.int .i64 0,.int .i64 0,.int .i64 0,.int .i64 0,.int .i64 0,.slice ak 0 0,.bool aa,.int .i64 0,.int .i64 0,.slice ak 0 0,.int .i64 0,.int .i64 0,.bool aa,.bool aa,.bool aa,.bool aa,.slice ak 0 0,.slice ak 0 0,.int .i64 0,.int .i64 0,.int .i64 0,.int .i64 0,.int .i64 0,.int .i64 0,.int .i64 0,.int .i64 0,.int .i64 0,.slice ak 0 0,.bool aa,.int .i64 0,.int .i64 0,.slice ak 0 0,.int .i64 0,.int .i64 0,.bool aa,.bool aa,.bool aa,.bool aa,.slice ak 0 0,.slice ak 0 0,.int .i64 0,.int .i64 0],[.v (.int .i64 0),.v (.int .i64 0),.v (.int .i64 0),.v (.int .i64 0),.v (.int .i64 0),.v (.int .i64 0),.v (.int .i64 0),.v (.slice ak 0 0),.v (.bool aa),.v (.int .i64 0),.v (.int .i64 0),.v (.slice ak 0 0),.v (.int .i64 0),.v (.int .i64 0),.v (.bool aa),.v (.bool aa),.v (.bool aa),.v (.bool aa),.v (.slice ak 0 0),.v (.slice ak 0 0),.v (.int .i64 0),.v (.int .i64 0),.v (.int .i64 0),.v (.int .i64 0),.v (.int .i64 0),.v (.int .i64 0),.v (.int .i64 0),.v (.int .i64 0),.v (.int .i64 0),.v (.slice ak 0 0),.v (.bool aa),.v (.int .i64 0),.v (.int .i64 0),.v (.slice ak 0 0),.v (.int .i64 0),.v (.int .i64 0),.v (.bool aa),.v (.bool aa),.v (.bool aa),.v (.bool aa),.v (.slice ak 0 0),.v (.slice ak 0 0),.v (.int .i64 0),.v (.int .i64 0)],432,.struct [(0,22,ae),(22,22,ae)],ak,[]⟩
theorem znY:dJ al.prog 38 zva:=⟨ gK,gK,rfl,rfl,rfl,⟨ gK,gK⟩,(λ ks h=>by cases h),λ m h=>by cases h⟩
def zvb:TI:=⟨36,ae,[.int .i64 0,.int .i64 0,.int .i64 0,.int .i64 0,.int .i64 0,.int .i64 0,.int .i64 0,.slice ak 0 0,.bool aa,.int .i64 0,.int .i64 0,.slice ak 0 0,.int .i64 0,.int .i64 0,.bool aa,.bool aa,.bool aa,.bool aa,.int .i64 0,.int .i64 0,.int .i64 0,.int .i64 0,.int .i64 0,.int .i64 0,.int .i64 0,.slice ak 0 0,.bool aa,.int .i64 0,.int .i64 0,.slice ak 0 0,.int .i64 0,.int .i64 0,.bool aa,.bool aa,.bool aa,.bool aa],[.v (.int .i64 0),.v (.int .i64 0),.v (.int .i64 0),.v (.int .i64 0),.v (.int .i64 0),.v (.int .i64 0),.v (.int .i64 0),.v (.slice ak 0 0),.v (.bool aa),.v (.int .i64 0),.v (.int .i64 0),.v (.slice ak 0 0),.v (.int .i64 0),.v (.int .i64 0),.v (.bool aa),.v (.bool aa),.v (.bool aa),.v (.bool aa),.v (.int .i64 0),.v (.int .i64 0),.v (.int .i64 0),.v (.int .i64 0),.v (.int .i64 0),.v (.int .i64 0),.v (.int .i64 0),.v (.slice ak 0 0),.v (.bool aa),.v (.int .i64 0),.v (.int .i64 0),.v (.slice ak 0 0),.v (.int .i64 0),.v (.int .i64 0),.v (.bool aa),.v (.bool aa),.v (.bool aa),.v (.bool aa)],304,.struct [(0,18,ae),(18,18,ae)],ak,[]⟩
theorem znZ:dJ al.prog 44 zvb:=⟨ gK,gK,rfl,rfl,rfl,⟨ gK,gK⟩,(λ ks h=>by cases h),λ m h=>by cases h⟩
def zvc:TI:=⟨3,ae,[.int .i64 0,.int .i64 0,.int .i64 0],[.v (.int .i64 0),.v (.int .i64 0),.v (.int .i64 0)],24,.struct [(0,1,aa),(1,1,aa),(2,1,aa)],ab [ab .i64,ab .i64,ab .i64],[]⟩
theorem zn0:dJ al.prog 60 zvc:=⟨ gK,gK,rfl,rfl,rfl,⟨ gK,gK⟩,(λ ks h=>by cases h;exact⟨ gK,gK,gK,gK⟩),λ m h=>by cases h⟩
def zvd:TI:=⟨1,aa,[.slice ak 0 0],[.v (.slice ak 0 0)],24,.slice 289 2 .bK,ak,[]⟩
theorem zn1:dJ al.prog 61 zvd:=⟨ gK,gK,rfl,rfl,rfl,⟨ gK,gK,gK,rfl⟩,(λ ks h=>by cases h),λ m h=>by cases h⟩
def zve:TI:=⟨5,ae,[.int .i64 0,.int .i64 0,.slice ak 0 0,.bool aa,.int .i64 0],[.v (.int .i64 0),.v (.int .i64 0),.v (.slice ak 0 0),.v (.bool aa),.v (.int .i64 0)],56,.struct [(0,1,aa),(1,1,aa),(2,1,aa),(3,1,aa),(4,1,aa)],ak,[]⟩
theorem zn2:dJ al.prog 63 zve:=⟨ gK,gK,rfl,rfl,rfl,⟨ gK,gK⟩,(λ ks h=>by cases h),λ m h=>by cases h⟩
def zvf:TI:=⟨4,ae,[.int .i64 0,.slice ak 0 0,.int .i64 0,.int .i64 0],[.v (.int .i64 0),.v (.slice ak 0 0),.v (.int .i64 0),.v (.int .i64 0)],48,.struct [(0,1,aa),(1,1,aa),(2,1,aa),(3,1,aa)],ak,[]⟩
theorem zn3:dJ al.prog 64 zvf:=⟨ gK,gK,rfl,rfl,rfl,⟨ gK,gK⟩,(λ ks h=>by cases h),λ m h=>by cases h⟩
def zvg:TI:=⟨4,ae,[.bool aa,.bool aa,.bool aa,.bool aa],[.v (.bool aa),.v (.bool aa),.v (.bool aa),.v (.bool aa)],4,.struct [(0,1,aa),(1,1,aa),(2,1,aa),(3,1,aa)],ab [ak,ak,ak,ak],[]⟩
theorem zn4:dJ al.prog 65 zvg:=⟨ gK,gK,rfl,rfl,rfl,⟨ gK,gK⟩,(λ ks h=>by cases h;exact⟨ gK,gK,gK,gK⟩),λ m h=>by cases h⟩
def zvh:TI:=⟨18,ae,[.int .i64 0,.int .i64 0,.int .i64 0,.int .i64 0,.int .i64 0,.int .i64 0,.int .i64 0,.slice ak 0 0,.bool aa,.int .i64 0,.int .i64 0,.slice ak 0 0,.int .i64 0,.int .i64 0,.bool aa,.bool aa,.bool aa,.bool aa],[.v (.int .i64 0),.v (.int .i64 0),.v (.int .i64 0),.v (.int .i64 0),.v (.int .i64 0),.v (.int .i64 0),.v (.int .i64 0),.v (.slice ak 0 0),.v (.bool aa),.v (.int .i64 0),.v (.int .i64 0),.v (.slice ak 0 0),.v (.int .i64 0),.v (.int .i64 0),.v (.bool aa),.v (.bool aa),.v (.bool aa),.v (.bool aa)],152,.struct [(0,3,ae),(3,1,aa),(4,1,aa),(5,5,ae),(10,4,ae),(14,4,ae)],ak,[]⟩
theorem zn5:dJ al.prog 67 zvh:=⟨ gK,gK,rfl,rfl,rfl,⟨ gK,gK⟩,(λ ks h=>by cases h),λ m h=>by cases h⟩
def zvi:TI:=⟨22,ae,[.int .i64 0,.int .i64 0,.int .i64 0,.int .i64 0,.int .i64 0,.int .i64 0,.int .i64 0,.slice ak 0 0,.bool aa,.int .i64 0,.int .i64 0,.slice ak 0 0,.int .i64 0,.int .i64 0,.bool aa,.bool aa,.bool aa,.bool aa,.slice ak 0 0,.slice ak 0 0,.int .i64 0,.int .i64 0],[.v (.int .i64 0),.v (.int .i64 0),.v (.int .i64 0),.v (.int .i64 0),.v (.int .i64 0),.v (.int .i64 0),.v (.int .i64 0),.v (.slice ak 0 0),.v (.bool aa),.v (.int .i64 0),.v (.int .i64 0),.v (.slice ak 0 0),.v (.int .i64 0),.v (.int .i64 0),.v (.bool aa),.v (.bool aa),.v (.bool aa),.v (.bool aa),.v (.slice ak 0 0),.v (.slice ak 0 0),.v (.int .i64 0),.v (.int .i64 0)],216,.struct [(0,18,ae),(18,1,aa),(19,1,aa),(20,1,aa),(21,1,aa)],ak,[]⟩
theorem zn6:dJ al.prog 69 zvi:=⟨ gK,gK,rfl,rfl,rfl,⟨ gK,gK⟩,(λ ks h=>by cases h),λ m h=>by cases h⟩
def zvj:TI:=⟨44,ae,[.int .i64 0,.int .i64 0,.int .i64 0,.int .i64 0,.int .i64 0,.int .i64 0,.int .i64 0,.slice ak 0 0,.bool aa,.int .i64 0,.int .i64 0,.slice ak 0 0,.int .i64 0,.int .i64 0,.bool aa,.bool aa,.bool aa,.bool aa,.slice ak 0 0,.slice ak 0 0,.int .i64 0,.int .i64 0,.int .i64 0,.int .i64 0,.int .i64 0,.int .i64 0,.int .i64 0,.int .i64 0,.int .i64 0,.slice ak 0 0,.bool aa,.int .i64 0,.int .i64 0,.slice ak 0 0,.int .i64 0,.int .i64 0,.bool aa,.bool aa,.bool aa,.bool aa,.slice ak 0 0,.slice ak 0 0,.int .i64 0,.int .i64 0],[.v (.int .i64 0),.v (.int .i64 0),.v (.int .i64 0),.v (.int .i64 0),.v (.int .i64 0),.v (.int .i64 0),.v (.int .i64 0),.v (.slice ak 0 0),.v (.bool aa),.v (.int .i64 0),.v (.int .i64 0),.v (.slice ak 0 0),.v (.int .i64 0),.v (.int .i64 0),.v (.bool aa),.v (.bool aa),.v (.bool aa),.v (.bool aa),.v (.slice ak 0 0),.v (.slice ak 0 0),.v (.int .i64 0),.v (.int .i64 0),.v (.int .i64 0),.v (.int .i64 0),.v (.int .i64 0),.v (.int .i64 0),.v (.int .i64 0),.v (.int .i64 0),.v (.int .i64 0),.v (.slice ak 0 0),.v (.bool aa),.v (.int .i64 0),.v (.int .i64 0),.v (.slice ak 0 0),.v (.int .i64 0),.v (.int .i64 0),.v (.bool aa),.v (.bool aa),.v (.bool aa),.v (.bool aa),.v (.slice ak 0 0),.v (.slice ak 0 0),.v (.int .i64 0),.v (.int .i64 0)],432,.struct [(0,22,ae),(22,22,ae)],ak,[]⟩
theorem zn7:dJ al.prog 71 zvj:=⟨ gK,gK,rfl,rfl,rfl,⟨ gK,gK⟩,(λ ks h=>by cases h),λ m h=>by cases h⟩
def zvk:TI:=⟨1,aa,[.pointer ak],[.v (.pointer ak)],8,.ptr 105,ak,[]⟩
theorem zn8:dJ al.prog 78 zvk:=⟨ gK,gK,rfl,rfl,rfl,by show al.prog.underlying 78=ab (bQ 105);kernel_rfl,(λ ks h=>by cases h),λ m h=>by cases h⟩
def zvl:TI:=⟨1,aa,[.chan ak],[.v (.chan ak)],8,.chan,ak,[]⟩
theorem zn9:dJ al.prog 83 zvl:=⟨ gK,gK,rfl,rfl,rfl,(by kernel_rfl:(al.prog.underlying 83).bind (λ d=>match d with|.chan _ e=>(al.prog.info? e).map λ f=>decide (f.bytes<=16)|_=>ak)=ab ae),(λ ks h=>by cases h),λ m h=>by cases h⟩
def zvm:TI:=⟨1,aa,[.pointer ak],[.v (.pointer ak)],8,.ptr 36,ak,[]⟩
theorem zoa:dJ al.prog 89 zvm:=⟨ gK,gK,rfl,rfl,rfl,by show al.prog.underlying 89=ab (bQ 36);kernel_rfl,(λ ks h=>by cases h),λ m h=>by cases h⟩
def zvn:TI:=⟨1,aa,[.map ak],[.v (.map ak)],8,.map,ak,[]⟩
theorem zob:dJ al.prog 90 zvn:=⟨ gK,gK,rfl,rfl,rfl,(by kernel_rfl:(al.prog.underlying 90).bind (λ d=>match d with|.map k _=>(al.prog.underlying k).map zhi|_=>ak)=ab ae),(λ ks h=>by cases h),λ m h=>by cases h⟩
def zvo:TI:=⟨2,ae,[.int .i64 0,.int .i64 0],[.v (.int .i64 0),.v (.int .i64 0)],16,.struct [(0,1,aa),(1,1,aa)],ab [ab .i64,ab .i64],[]⟩
theorem zoc:dJ al.prog 96 zvo:=⟨ gK,gK,rfl,rfl,rfl,⟨ gK,gK⟩,(λ ks h=>by cases h;exact⟨ gK,gK,gK,gK⟩),λ m h=>by cases h⟩
def zph:TI:=⟨2,ae,[.slice ak 0 0,.int .i64 0],[.v (.slice ak 0 0),.v (.int .i64 0)],32,.struct [(0,1,aa),(1,1,aa)],ak,[]⟩
theorem zjK:dJ al.prog 105 zph:=⟨ gK,gK,rfl,rfl,rfl,⟨ gK,gK⟩,(λ ks h=>by cases h),λ m h=>by cases h⟩
def zpi:TI:=⟨1,aa,[.int .u64 0],[.v (.int .u64 0)],8,.int .u64,ak,[]⟩
theorem zjL:dJ al.prog 110 zpi:=⟨ gK,gK,rfl,rfl,rfl,by show al.prog.underlying 110=ab (qc .u64);kernel_rfl,(λ ks h=>by cases h),λ m h=>by cases h⟩
def zpj:TI:=⟨44,ae,[.int .i64 0,.int .i64 0,.int .i64 0,.int .i64 0,.int .i64 0,.int .i64 0,.int .i64 0,.slice ak 0 0,.bool aa,.int .i64 0,.int .i64 0,.slice ak 0 0,.int .i64 0,.int .i64 0,.bool aa,.bool aa,.bool aa,.bool aa,.slice ak 0 0,.slice ak 0 0,.int .i64 0,.int .i64 0,.int .i64 0,.int .i64 0,.int .i64 0,.int .i64 0,.int .i64 0,.int .i64 0,.int .i64 0,.slice ak 0 0,.bool aa,.int .i64 0,.int .i64 0,.slice ak 0 0,.int .i64 0,.int .i64 0,.bool aa,.bool aa,.bool aa,.bool aa,.slice ak 0 0,.slice ak 0 0,.int .i64 0,.int .i64 0],[.v (.int .i64 0),.v (.int .i64 0),.v (.int .i64 0),.v (.int .i64 0),.v (.int .i64 0),.v (.int .i64 0),.v (.int .i64 0),.v (.slice ak 0 0),.v (.bool aa),.v (.int .i64 0),.v (.int .i64 0),.v (.slice ak 0 0),.v (.int .i64 0),.v (.int .i64 0),.v (.bool aa),.v (.bool aa),.v (.bool aa),.v (.bool aa),.v (.slice ak 0 0),.v (.slice ak 0 0),.v (.int .i64 0),.v (.int .i64 0),.v (.int .i64 0),.v (.int .i64 0),.v (.int .i64 0),.v (.int .i64 0),.v (.int .i64 0),.v (.int .i64 0),.v (.int .i64 0),.v (.slice ak 0 0),.v (.bool aa),.v (.int .i64 0),.v (.int .i64 0),.v (.slice ak 0 0),.v (.int .i64 0),.v (.int .i64 0),.v (.bool aa),.v (.bool aa),.v (.bool aa),.v (.bool aa),.v (.slice ak 0 0),.v (.slice ak 0 0),.v (.int .i64 0),.v (.int .i64 0)],432,.arr 2 36 22 ae,ak,[]⟩
theorem zjM:dJ al.prog 120 zpj:=⟨ gK,gK,rfl,rfl,rfl,⟨ gK,gK,gK⟩,(λ ks h=>by cases h),λ m h=>by cases h⟩
def zpk:TI:=⟨1,aa,[.chan ak],[.v (.chan ak)],8,.chan,ak,[]⟩
theorem zjN:dJ al.prog 127 zpk:=⟨ gK,gK,rfl,rfl,rfl,(by kernel_rfl:(al.prog.underlying 127).bind (λ d=>match d with|.chan _ e=>(al.prog.info? e).map λ f=>decide (f.bytes<=16)|_=>ak)=ab ae),(λ ks h=>by cases h),λ m h=>by cases h⟩
def zpl:TI:=⟨1,aa,[.chan ak],[.v (.chan ak)],8,.chan,ak,[]⟩
theorem zjO:dJ al.prog 130 zpl:=⟨ gK,gK,rfl,rfl,rfl,(by kernel_rfl:(al.prog.underlying 130).bind (λ d=>match d with|.chan _ e=>(al.prog.info? e).map λ f=>decide (f.bytes<=16)|_=>ak)=ab ae),(λ ks h=>by cases h),λ m h=>by cases h⟩
def zpm:TI:=⟨9,ae,[.int .i64 0,.int .i64 0,.slice ak 0 0,.bool aa,.int .i64 0,.int .i64 0,.slice ak 0 0,.int .i64 0,.int .i64 0],[.v (.int .i64 0),.v (.int .i64 0),.v (.slice ak 0 0),.v (.bool aa),.v (.int .i64 0),.v (.int .i64 0),.v (.slice ak 0 0),.v (.int .i64 0),.v (.int .i64 0)],104,.struct [(0,5,ae),(5,4,ae)],ak,[]⟩
theorem zjP:dJ al.prog 140 zpm:=⟨ gK,gK,rfl,rfl,rfl,⟨ gK,gK⟩,(λ ks h=>by cases h),λ m h=>by cases h⟩
def zpn:TI:=⟨1,aa,[.pointer ak],[.v (.pointer ak)],8,.ptr 115,ak,[]⟩
theorem zjQ:dJ al.prog 152 zpn:=⟨ gK,gK,rfl,rfl,rfl,by show al.prog.underlying 152=ab (bQ 115);kernel_rfl,(λ ks h=>by cases h),λ m h=>by cases h⟩
def zpo:TI:=⟨1,aa,[.int .u64 0],[.v (.int .u64 0)],8,.int .u64,ak,[]⟩
theorem zjR:dJ al.prog 160 zpo:=⟨ gK,gK,rfl,rfl,rfl,by show al.prog.underlying 160=ab (qc .u64);kernel_rfl,(λ ks h=>by cases h),λ m h=>by cases h⟩
def zpp:TI:=⟨1,aa,[.pointer ak],[.v (.pointer ak)],8,.ptr 113,ak,[]⟩
theorem zjS:dJ al.prog 161 zpp:=⟨ gK,gK,rfl,rfl,rfl,by show al.prog.underlying 161=ab (bQ 113);kernel_rfl,(λ ks h=>by cases h),λ m h=>by cases h⟩
def zpq:TI:=⟨1,aa,[.pointer ak],[.v (.pointer ak)],8,.ptr 119,ak,[]⟩
theorem zjT:dJ al.prog 166 zpq:=⟨ gK,gK,rfl,rfl,rfl,by show al.prog.underlying 166=ab (bQ 119);kernel_rfl,(λ ks h=>by cases h),λ m h=>by cases h⟩
def zpr:TI:=⟨2,ae,[.int .i64 0,.slice ak 0 0],[.v (.int .i64 0),.v (.slice ak 0 0)],32,.struct [(0,1,aa),(1,1,aa)],ak,[]⟩
theorem zjU:dJ al.prog 182 zpr:=⟨ gK,gK,rfl,rfl,rfl,⟨ gK,gK⟩,(λ ks h=>by cases h),λ m h=>by cases h⟩
def zps:TI:=⟨1,aa,[.pointer ak],[.v (.pointer ak)],8,.ptr 193,ak,[]⟩
theorem zjV:dJ al.prog 189 zps:=⟨ gK,gK,rfl,rfl,rfl,by show al.prog.underlying 189=ab (bQ 193);kernel_rfl,(λ ks h=>by cases h),λ m h=>by cases h⟩
def zpt:TI:=⟨1,aa,[.pointer ak],[.v (.pointer ak)],8,.ptr 258,ak,[]⟩
theorem zjW:dJ al.prog 191 zpt:=⟨ gK,gK,rfl,rfl,rfl,by show al.prog.underlying 191=ab (bQ 258);kernel_rfl,(λ ks h=>by cases h),λ m h=>by cases h⟩
def zpu:TI:=⟨3,ae,[.pointer ak,.pointer ak,.int .i64 0],[.v (.pointer ak),.v (.pointer ak),.v (.int .i64 0)],24,.struct [(0,1,aa),(1,1,aa),(2,1,aa)],ak,[]⟩
theorem zjX:dJ al.prog 193 zpu:=⟨ gK,gK,rfl,rfl,rfl,⟨ gK,gK⟩,(λ ks h=>by cases h),λ m h=>by cases h⟩
def zpv:TI:=⟨2,ae,[.bool aa,.bool aa],[.v (.bool aa),.v (.bool aa)],2,.arr 2 4 1 aa,ak,[]⟩
theorem zjY:dJ al.prog 196 zpv:=⟨ gK,gK,rfl,rfl,rfl,⟨ gK,gK,gK⟩,(λ ks h=>by cases h),λ m h=>by cases h⟩
def zpw:TI:=⟨1,aa,[.pointer ak],[.v (.pointer ak)],8,.ptr 4,ak,[]⟩
theorem zjZ:dJ al.prog 197 zpw:=⟨ gK,gK,rfl,rfl,rfl,by show al.prog.underlying 197=ab (bQ 4);kernel_rfl,(λ ks h=>by cases h),λ m h=>by cases h⟩
def zpx:TI:=⟨2,ae,[.pointer ak,.pointer ak],[.v (.pointer ak),.v (.pointer ak)],16,.struct [(0,1,aa),(1,1,aa)],ak,[]⟩
theorem zj0:dJ al.prog 199 zpx:=⟨ gK,gK,rfl,rfl,rfl,⟨ gK,gK⟩,(λ ks h=>by cases h),λ m h=>by cases h⟩
def zpy:TI:=⟨4,ae,[.pointer ak,.pointer ak,.pointer ak,.pointer ak],[.v (.pointer ak),.v (.pointer ak),.v (.pointer ak),.v (.pointer ak)],32,.arr 2 199 2 ae,ak,[]⟩
theorem zj1:dJ al.prog 200 zpy:=⟨ gK,gK,rfl,rfl,rfl,⟨ gK,gK,gK⟩,(λ ks h=>by cases h),λ m h=>by cases h⟩
def zpz:TI:=⟨1,aa,[.pointer ak],[.v (.pointer ak)],8,.ptr 32,ak,[]⟩
theorem zj2:dJ al.prog 202 zpz:=⟨ gK,gK,rfl,rfl,rfl,by show al.prog.underlying 202=ab (bQ 32);kernel_rfl,(λ ks h=>by cases h),λ m h=>by cases h⟩
def zpA:TI:=⟨1,aa,[.pointer ak],[.v (.pointer ak)],8,.ptr 209,ak,[("Len",159,aa),("Less",265,aa),("Pop",266,ae),("Push",267,ae),("Swap",268,aa)]⟩
theorem zj3:dJ al.prog 207 zpA:=⟨ gK,gK,rfl,rfl,rfl,by show al.prog.underlying 207=ab (bQ 209);kernel_rfl,(λ ks h=>by cases h),(by
 intro m hm n w
 change m∈([("Len",159,aa),("Less",265,aa),("Pop",266,ae),("Push",267,ae),("Swap",268,aa)]:List (String×ck×Bool)) at hm
 simp only[bF,List.not_mem_nil,or_false] at hm
 rcases hm with rfl|rfl|rfl|rfl|rfl
 ·exact⟨λ h=>(by cases h),λ _ e he=>by
  replace he:TK.ptr 209=TK.ptr e:=he
  obtain rfl:=TK.ptr.inj he
  show Sem.run _ _ _=Sem.run _ _ _
  kernel_rfl⟩
 ·exact⟨λ h=>(by cases h),λ _ e he=>by
  replace he:TK.ptr 209=TK.ptr e:=he
  obtain rfl:=TK.ptr.inj he
  show Sem.run _ _ _=Sem.run _ _ _
  kernel_rfl⟩
 ·exact⟨λ _=>by kernel_rfl,λ h=>by cases h⟩
 ·exact⟨λ _=>by kernel_rfl,λ h=>by cases h⟩
 ·exact⟨λ h=>(by cases h),λ _ e he=>by
  replace he:TK.ptr 209=TK.ptr e:=he
  obtain rfl:=TK.ptr.inj he
  show Sem.run _ _ _=Sem.run _ _ _
  kernel_rfl⟩)⟩
def zpB:TI:=⟨1,aa,[.slice ak 0 0],[.v (.slice ak 0 0)],24,.slice 211 3 .k3,ak,[]⟩
theorem zj4:dJ al.prog 208 zpB:=⟨ gK,gK,rfl,rfl,rfl,⟨ gK,gK,gK,rfl⟩,(λ ks h=>by cases h),λ m h=>by cases h⟩
def zpC:TI:=⟨1,aa,[.slice ak 0 0],[.v (.slice ak 0 0)],24,.slice 211 3 .k3,ak,[]⟩
theorem zj5:dJ al.prog 209 zpC:=⟨ gK,gK,rfl,rfl,rfl,⟨ gK,gK,gK,rfl⟩,(λ ks h=>by cases h),λ m h=>by cases h⟩
def zpD:TI:=⟨3,ae,[.int .i64 0,.int .i64 0,.int .i64 0],[.v (.int .i64 0),.v (.int .i64 0),.v (.int .i64 0)],24,.struct [(0,1,aa),(1,1,aa),(2,1,aa)],ab [ab .i64,ab .i64,ab .i64],[]⟩
theorem zj6:dJ al.prog 211 zpD:=⟨ gK,gK,rfl,rfl,rfl,⟨ gK,gK⟩,(λ ks h=>by cases h;exact⟨ gK,gK,gK,gK⟩),λ m h=>by cases h⟩
def zpE:TI:=⟨18,ae,[.int .i64 0,.int .i64 0,.int .i64 0,.int .i64 0,.int .i64 0,.int .i64 0,.int .i64 0,.int .i64 0,.int .i64 0,.int .i64 0,.int .i64 0,.int .i64 0,.int .i64 0,.int .i64 0,.int .i64 0,.int .i64 0,.int .i64 0,.int .i64 0],[.v (.int .i64 0),.v (.int .i64 0),.v (.int .i64 0),.v (.int .i64 0),.v (.int .i64 0),.v (.int .i64 0),.v (.int .i64 0),.v (.int .i64 0),.v (.int .i64 0),.v (.int .i64 0),.v (.int .i64 0),.v (.int .i64 0),.v (.int .i64 0),.v (.int .i64 0),.v (.int .i64 0),.v (.int .i64 0),.v (.int .i64 0),.v (.int .i64 0)],144,.arr 6 211 3 ae,ak,[]⟩
theorem zj7:dJ al.prog 212 zpE:=⟨ gK,gK,rfl,rfl,rfl,⟨ gK,gK,gK⟩,(λ ks h=>by cases h),λ m h=>by cases h⟩
def zpF:TI:=⟨1,aa,[.pointer ak],[.v (.pointer ak)],8,.ptr 112,ak,[]⟩
theorem zj8:dJ al.prog 234 zpF:=⟨ gK,gK,rfl,rfl,rfl,by show al.prog.underlying 234=ab (bQ 112);kernel_rfl,(λ ks h=>by cases h),λ m h=>by cases h⟩
def zpG:TI:=⟨1,aa,[.pointer ak],[.v (.pointer ak)],8,.ptr 110,ak,[]⟩
theorem zj9:dJ al.prog 236 zpG:=⟨ gK,gK,rfl,rfl,rfl,by show al.prog.underlying 236=ab (bQ 110);kernel_rfl,(λ ks h=>by cases h),λ m h=>by cases h⟩
def zpH:TI:=⟨1,aa,[.pointer ak],[.v (.pointer ak)],8,.ptr 117,ak,[]⟩
theorem zka:dJ al.prog 239 zpH:=⟨ gK,gK,rfl,rfl,rfl,by show al.prog.underlying 239=ab (bQ 117);kernel_rfl,(λ ks h=>by cases h),λ m h=>by cases h⟩
def zpI:TI:=⟨1,aa,[.pointer ak],[.v (.pointer ak)],8,.ptr 21,ak,[]⟩
theorem zkb:dJ al.prog 241 zpI:=⟨ gK,gK,rfl,rfl,rfl,by show al.prog.underlying 241=ab (bQ 21);kernel_rfl,(λ ks h=>by cases h),λ m h=>by cases h⟩
def zpJ:TI:=⟨1,aa,[.pointer ak],[.v (.pointer ak)],8,.ptr 281,ak,[]⟩
theorem zkc:dJ al.prog 254 zpJ:=⟨ gK,gK,rfl,rfl,rfl,by show al.prog.underlying 254=ab (bQ 281);kernel_rfl,(λ ks h=>by cases h),λ m h=>by cases h⟩
def zpK:TI:=⟨3,ae,[.int .i64 0,.int .i64 0,.pointer ak],[.v (.int .i64 0),.v (.int .i64 0),.v (.pointer ak)],24,.struct [(0,2,ae),(2,1,aa)],ak,[]⟩
theorem zkd:dJ al.prog 258 zpK:=⟨ gK,gK,rfl,rfl,rfl,⟨ gK,gK⟩,(λ ks h=>by cases h),λ m h=>by cases h⟩
def zpL:TI:=⟨16,ae,[.int .i64 0,.int .i64 0,.int .i64 0,.int .i64 0,.int .i64 0,.int .i64 0,.int .i64 0,.int .i64 0,.int .i64 0,.int .i64 0,.int .i64 0,.int .i64 0,.int .i64 0,.int .i64 0,.int .i64 0,.int .i64 0],[.v (.int .i64 0),.v (.int .i64 0),.v (.int .i64 0),.v (.int .i64 0),.v (.int .i64 0),.v (.int .i64 0),.v (.int .i64 0),.v (.int .i64 0),.v (.int .i64 0),.v (.int .i64 0),.v (.int .i64 0),.v (.int .i64 0),.v (.int .i64 0),.v (.int .i64 0),.v (.int .i64 0),.v (.int .i64 0)],128,.arr 16 3 1 aa,ak,[]⟩
theorem zke:dJ al.prog 279 zpL:=⟨ gK,gK,rfl,rfl,rfl,⟨ gK,gK,gK⟩,(λ ks h=>by cases h),λ m h=>by cases h⟩
def zpM:TI:=⟨19,ae,[.int .i64 0,.int .i64 0,.int .i64 0,.int .i64 0,.int .i64 0,.int .i64 0,.int .i64 0,.int .i64 0,.int .i64 0,.int .i64 0,.int .i64 0,.int .i64 0,.int .i64 0,.int .i64 0,.int .i64 0,.int .i64 0,.int .i64 0,.int .i64 0,.int .i64 0],[.v (.int .i64 0),.v (.int .i64 0),.v (.int .i64 0),.v (.int .i64 0),.v (.int .i64 0),.v (.int .i64 0),.v (.int .i64 0),.v (.int .i64 0),.v (.int .i64 0),.v (.int .i64 0),.v (.int .i64 0),.v (.int .i64 0),.v (.int .i64 0),.v (.int .i64 0),.v (.int .i64 0),.v (.int .i64 0),.v (.int .i64 0),.v (.int .i64 0),.v (.int .i64 0)],152,.struct [(0,16,ae),(16,1,aa),(17,1,aa),(18,1,aa)],ak,[]⟩
theorem zkf:dJ al.prog 281 zpM:=⟨ gK,gK,rfl,rfl,rfl,⟨ gK,gK⟩,(λ ks h=>by cases h),λ m h=>by cases h⟩
def zpN:TI:=⟨2,ae,[.int .i64 0,.int .i64 0],[.v (.int .i64 0),.v (.int .i64 0)],16,.struct [(0,1,aa),(1,1,aa)],ab [ab .i64,ab .i64],[]⟩
theorem zkg:dJ al.prog 289 zpN:=⟨ gK,gK,rfl,rfl,rfl,⟨ gK,gK⟩,(λ ks h=>by cases h;exact⟨ gK,gK,gK,gK⟩),λ m h=>by cases h⟩
def zpO:TI:=⟨1,aa,[.pointer ak],[.v (.pointer ak)],8,.ptr 324,ak,[]⟩
theorem zkh:dJ al.prog 293 zpO:=⟨ gK,gK,rfl,rfl,rfl,by show al.prog.underlying 293=ab (bQ 324);kernel_rfl,(λ ks h=>by cases h),λ m h=>by cases h⟩
def zpP:TI:=⟨1,aa,[.slice ak 0 0],[.v (.slice ak 0 0)],24,.osl 262,ak,[]⟩
theorem zki:dJ al.prog 300 zpP:=⟨ gK,gK,rfl,rfl,rfl,by show al.prog.underlying 300=ab (TypeDesc.slice 262);kernel_rfl,(λ ks h=>by cases h),λ m h=>by cases h⟩
def zpQ:TI:=⟨1,aa,[.pointer ak],[.v (.pointer ak)],8,.ptr 326,ak,[]⟩
theorem zkj:dJ al.prog 302 zpQ:=⟨ gK,gK,rfl,rfl,rfl,by show al.prog.underlying 302=ab (bQ 326);kernel_rfl,(λ ks h=>by cases h),λ m h=>by cases h⟩
def zpR:TI:=⟨1,aa,[.pointer ak],[.v (.pointer ak)],8,.ptr 5,ak,[]⟩
theorem zkk:dJ al.prog 312 zpR:=⟨ gK,gK,rfl,rfl,rfl,by show al.prog.underlying 312=ab (bQ 5);kernel_rfl,(λ ks h=>by cases h),λ m h=>by cases h⟩
def zpS:TI:=⟨1,aa,[.pointer ak],[.v (.pointer ak)],8,.ptr 331,ak,[]⟩
theorem zkl:dJ al.prog 327 zpS:=⟨ gK,gK,rfl,rfl,rfl,by show al.prog.underlying 327=ab (bQ 331);kernel_rfl,(λ ks h=>by cases h),λ m h=>by cases h⟩
def zpT:TI:=⟨1,aa,[.slice ak 0 0],[.v (.slice ak 0 0)],24,.osl 335,ak,[]⟩
theorem zkm:dJ al.prog 332 zpT:=⟨ gK,gK,rfl,rfl,rfl,by show al.prog.underlying 332=ab (TypeDesc.slice 335);kernel_rfl,(λ ks h=>by cases h),λ m h=>by cases h⟩
def jV:oU:=[(2,ty2),(3,ty3),(4,ty4),(5,ty5),(9,ty9),(12,zuX),(15,zuY),(16,zuZ),(17,zu0),(22,zu1),(24,zu2),(25,zu3),(27,zu4),(28,zu5),(30,zu6),(32,zu7),(34,zu8),(36,zu9),(38,zva),(44,zvb),(60,zvc),(61,zvd),(63,zve),(64,zvf),(65,zvg),(67,zvh),(69,zvi),(71,zvj),(78,zvk),(83,zvl),(89,zvm),(90,zvn),(96,zvo),(105,zph),(110,zpi),(120,zpj),(127,zpk),(130,zpl),(140,zpm),(152,zpn),(160,zpo),(161,zpp),(166,zpq),(182,zpr),(189,zps),(191,zpt),(193,zpu),(196,zpv),(197,zpw),(199,zpx),(200,zpy),(202,zpz),(207,zpA),(208,zpB),(209,zpC),(211,zpD),(212,zpE),(234,zpF),(236,zpG),(239,zpH),(241,zpI),(254,zpJ),(258,zpK),(279,zpL),(281,zpM),(289,zpN),(293,zpO),(300,zpP),(302,zpQ),(312,zpR),(327,zpS),(332,zpT)]
theorem aS:jc al.prog jV:=Vu ⟨zsk,zsl,zsm,zsn,zso,znL,znM,znN,znO,znP,znQ,znR,znS,znT,znU,znV,znW,znX,znY,znZ,zn0,zn1,zn2,zn3,zn4,zn5,zn6,zn7,zn8,zn9,zoa,zob,zoc,zjK,zjL,zjM,zjN,zjO,zjP,zjQ,zjR,zjS,zjT,zjU,zjV,zjW,zjX,zjY,zjZ,zj0,zj1,zj2,zj3,zj4,zj5,zj6,zj7,zj8,zj9,zka,zkb,zkc,zkd,zke,zkf,zkg,zkh,zki,zkj,zkk,zkl,zkm,trivial⟩
theorem aH:al.prog.follows .mixedOrders=ae:=by kernel_rfl
structure zg3 where
 room:Int
 items:List Int
 b:Int
 ok:Bool
def GQ(room:Int)(l:List Int):zg3:=if kB room l then (match l with
 |x::r=>⟨room,r,x,ae⟩
 |[]=>⟨0,[],0,aa⟩) else ⟨0,[],0,aa⟩
def zoQ(room:Int)(l:List Int):List DL:=[.v (.int .i64 room),.s 3 (.ints l)]
def zg3.d(t:zg3):DV:=.t [.inr (zoQ t.room t.items),.inl (.v (.int .i64 t.b)),.inl (.v (.bool t.ok))]
structure yz where
 room:Int
 items:List Int
 shift:Int
 left:Int
def yz.d(s:yz):List DL:=[.v (.int .i64 s.room),.s 3 (.ints s.items),.v (.int .i64 s.shift),.v (.int .i64 s.left)]
def lK(s:yz):Bool:=kB s.room s.items && (if s.shift=-1 then decide (s.left=0) else eF s.shift && (decide (1<=s.left) && decide (s.left<=3)))
def zR(s:yz):Int×Int×Int:=if s.shift=-1 then (-1,-1,s.left) else if s.left=1 then (s.shift,-1,0) else (-1,s.shift,s.left-1)
def iu(s:yz):yz×Int:=if (zR s).2.1=-1 then (match s.items with
 |x::r=>(⟨s.room,r,x,3⟩,(zR s).1)
 |[]=>(⟨s.room,[],-1,(zR s).2.2⟩,(zR s).1)) else (⟨s.room,s.items,(zR s).2.1,(zR s).2.2⟩,(zR s).1)
structure zg4 where
 s:yz
 gone:Int
 ok:Bool
def lO(s:yz):zg4:=if lK s then ⟨(iu s).1,(iu s).2,ae⟩ else ⟨⟨0,[],0,0⟩,0,aa⟩
def zg4.d(t:zg4):DV:=.t [.inr t.s.d,.inl (.v (.int .i64 t.gone)),.inl (.v (.bool t.ok))]
def jw(s:yz):Int:=if lK s then (if 0<s.items.length then 0 else if s.shift=-1 then 96 else 32) else -1
theorem Zd{room:Int}{l:List Int}(h:kB room l=ae):1<=room/\room<=16/\(l.length:Int)<=room/\ko l=ae:=by
 simp only[kB,aE,decide_eq_true_eq] at h
 exact⟨h.1.1.1,h.1.1.2,h.1.2,h.2⟩
theorem YW{x:Int}(h:eF x=ae):0<=x/\x<=255:=by
 simpa [eF] using h
variable{s:yz}
theorem kC(h:lK s=ae):(s.room<=16/\(s.items.length:Int)<=s.room/\1<=s.room)/\ko s.items=ae/\((s.shift=-1/\s.left=0)\/(0<=s.shift/\s.shift<=255/\1<=s.left/\s.left<=3)):=by
 simp only[lK,aE] at h
 obtain⟨h1,h2⟩:=h
 have:=Zd h1
 refine⟨by omega,this.2.2.2,?_⟩
 split at h2
 ·left;simp at h2;omega
 ·right
  simp only[aE,decide_eq_true_eq] at h2
  have:=YW h2.1
  omega
def pend(s:yz):List Int:=(if 0<=s.shift then [s.shift] else [])++s.items
theorem qK{x:Int}{l:List Int}(h:ko (x::l)=ae):eF x=ae/\ko l=ae:=by
 simpa [ko] using h
theorem Fy(hv:lK s=ae):lK (iu s).1=ae:=by
 obtain⟨r,l,s,f⟩:=s
 have Uz:=kC hv
 dsimp only at Uz
 obtain⟨⟨b1,b2,b3⟩,b4,b5⟩:=Uz
 by_cases hs:s=-1<;>by_cases hf:f=1<;>cases l<;>simp_all [iu,zR,lK,kB]<;>first|done|(have:=qK b4;simp_all [eF];omega)|(simp_all [eF];omega)
structure yy where
 room:Int
 mL:Int
 items:List (Int×Int)
 lost:Bool
 Sy:Int
def yy.d(r:yy):List DL:=[.v (.int .i64 r.room),.v (.int .i64 r.mL),.s 96 (.bK r.items),.v (.bool r.lost),.v (.int .i64 r.Sy)]
def zqW(g:Int×Int):List DL:=[.v (.int .i64 g.1),.v (.int .i64 g.2)]
def xe(g:Int×Int):Bool:=eF g.1 && (decide (0<=g.2) && decide (g.2<=2))
def EU(l:List (Int×Int)):Bool:=l.all xe
def ir(r:yy):Bool:=decide (1<=r.room) && decide (r.room<=16) && decide (1<=r.mL) && decide (r.mL<=r.room) && decide ((r.items.length:Int)<=r.room) && decide (0<=r.Sy) && decide (r.Sy<=99) && EU r.items
def JE:yy:=⟨0,0,[],aa,0⟩
structure za0 where
 r:yy
 g:Int×Int
 ok:Bool
def eT(r:yy):za0:=if ir r then (match r.items with
 |g::l=>⟨⟨r.room,r.mL,l,r.lost,0⟩,g,ae⟩
 |[]=>⟨JE,(0,0),aa⟩) else ⟨JE,(0,0),aa⟩
def za0.d(t:za0):DV:=.t [.inr t.r.d,.inr (zqW t.g),.inl (.v (.bool t.ok))]
structure zg1 where
 r:yy
 ok:Bool
def LN(r:yy)(g:Int×Int):yy:=if (r.items.length:Int)<r.room then ⟨r.room,r.mL,r.items++[g],r.lost,0⟩ else ⟨r.room,r.mL,r.items,ae,0⟩
def rN(r:yy)(g:Int×Int):zg1:=if ir r && xe g then ⟨LN r g,ae⟩ else ⟨JE,aa⟩
def zg1.d(t:zg1):DV:=.t [.inr t.r.d,.inl (.v (.bool t.ok))]
theorem BA(l:List (Int×Int))(k:Nat)(hk:k<l.length):EU (l.take (k+1))=(EU (l.take k) && xe (l.getD k (0,0))):=by
 unfold EU
 rw[dO,List.all_append,aW hk]
 simp[my,hk]
theorem P4(l:List (Int×Int))(k:Nat)(hk:k<l.length)(h:xe (l.getD k (0,0))=aa):EU l=aa:=by
 unfold EU
 rw[List.all_eq_false]
 refine⟨l[k],List.getElem_mem hk,?_⟩
 simp only[my,aW hk,cS] at h
 simp[h]
theorem oN{r:yy}(h:ir r=ae):(1<=r.room/\r.room<=16)/\(1<=r.mL/\r.mL<=r.room)/\(r.items.length:Int)<=r.room/\(0<=r.Sy/\r.Sy<=99)/\EU r.items=ae:=by
 simp only[ir,aE,decide_eq_true_eq] at h
 exact⟨⟨h.1.1.1.1.1.1.1,h.1.1.1.1.1.1.2⟩,⟨h.1.1.1.1.1.2,h.1.1.1.1.2⟩,h.1.1.1.2,⟨h.1.1.2,h.1.2⟩,h.2⟩
variable{l:List (Int×Int)}
theorem Z1{m:List (Int×Int)}{k:Nat}(hk:k<l.length)(nZ:k<m.length)(h:l.take k=m.take k)(h2:l.getD k (0,0)=m.getD k (0,0)):l.take (k+1)=m.take (k+1):=by
 rw[dO,dO,h,aW hk,aW nZ]
 simp only[my,aW hk,aW nZ,cS] at h2
 rw[h2]
variable{a:Int}
theorem OT{r t:Int}{o:Bool}(h:¬((1<=r/\r<=16)/\(1<=t/\t<=r)/\(l.length:Int)<=r/\(0<=a/\a<=99)/\EU l=ae)):ir ⟨r,t,l,o,a⟩=aa:=by
 cases hc:ir ⟨r,t,l,o,a⟩ with
 |false=>rfl
 |true=>exact absurd (oN hc) h
theorem xu{r t:Int}{o:Bool}(h1:1<=r/\r<=16)(h2:1<=t/\t<=r)(h3:(l.length:Int)<=r)(h4:0<=a/\a<=99)(h5:EU l=ae):ir ⟨r,t,l,o,a⟩=ae:=by
 simp[ir,h1.1,h1.2,h2.1,h2.2,h3,h4.1,h4.2,h5]
structure X4 where
 bits:Int
 par:Int
 stop:Int
 deriving DecidableEq
def X4.d(f:X4):List DL:=[.v (.int .i64 f.bits),.v (.int .i64 f.par),.v (.int .i64 f.stop)]
def yF(f:X4):Bool:=decide (5<=f.bits) && decide (f.bits<=8) && decide (0<=f.par) && decide (f.par<=2) && decide (1<=f.stop) && decide (f.stop<=2)
def O7(f:X4):Int:=if yF f then f.bits-5+4*(f.stop-1)+(if f.par=1 then 8 else if f.par=2 then 24 else 0) else -1
structure Jp where
 c:Bool
 h:Bool
 cc:Bool
 hc:Bool
 deriving DecidableEq
def Jp.d(m:Jp):List DL:=[.v (.bool m.c),.v (.bool m.h),.v (.bool m.cc),.v (.bool m.hc)]
def GN(m:Jp)(c h:Bool):Jp:=⟨c,h,m.cc || (m.c != c),m.hc || (m.h != h)⟩
def JL(m:Jp):Jp:=⟨m.c,m.h,aa,aa⟩
def wF(m:Jp):Int:=(if m.cc then 1 else 0)+(if m.hc then 2 else 0)+(if m.c then 16 else 0)+(if m.h then 32 else 0)
def JC(m:Jp):Bool:=m.cc || m.hc
structure re where
 f:X4
 en:Int
 co:Int
 rc:yy
 sd:yz
 md:Jp
def re.d(p:re):List DL:=[.v (.int .i64 p.f.bits),.v (.int .i64 p.f.par),.v (.int .i64 p.f.stop),.v (.int .i64 p.en),.v (.int .i64 p.co),
 .v (.int .i64 p.rc.room),.v (.int .i64 p.rc.mL),.s 96 (.bK p.rc.items),.v (.bool p.rc.lost),.v (.int .i64 p.rc.Sy),
 .v (.int .i64 p.sd.room),.s 3 (.ints p.sd.items),.v (.int .i64 p.sd.shift),.v (.int .i64 p.sd.left),
 .v (.bool p.md.c),.v (.bool p.md.h),.v (.bool p.md.cc),.v (.bool p.md.hc)]
def eS(p:re):Bool:=yF p.f && (decide (0<=p.en) && decide (p.en<=15)) && (decide (0<=p.co) && decide (p.co<=3)) && ir p.rc && lK p.sd
def zyT:X4:=⟨0,0,0⟩
def Wh:yz:=⟨0,[],0,0⟩
def zuN:Jp:=⟨aa,aa,aa,aa⟩
def C9:re:=⟨zyT,0,0,JE,Wh,zuN⟩
def yR(r:yy):yy:=⟨r.room,r.mL,r.items,r.lost,if 0<r.items.length then yI (r.Sy+1) 99 else 0⟩
structure za1 where
 r:yy
 ok:Bool
def A2(r:yy):za1:=if ir r then ⟨yR r,ae⟩ else ⟨JE,aa⟩
def za1.d(t:za1):DV:=.t [.inr t.r.d,.inl (.v (.bool t.ok))]
def lW(r:yy):Int:=if ir r then (if r.mL<=r.items.length then 1 else if 0<r.items.length/\4<=r.Sy then 2 else 0) else 0
def rK(l:List (Int×Int)):Int:=match l with
 |[]=>0
 |g::_=>1+(if g.2=1 then 4 else if g.2=2 then 8 else 0)
def fi(r:yy):Int:=if ir r then (if r.lost then 2 else 0)+rK r.items else -1
def JA(s r:Int)(m:Bool)(e:Int):Int:=
 if 0<=s/\s<=127/\0<=r/\r<=2/\0<=e/\e<=15 then
  (if e/4 % 2=1/\2<=s % 16 then 6 else if e % 2=1/\r=1 then 4 else if e % 2=1/\r=2 then 12 else if e/2 % 2=1/\s/32 % 2=1 then 2 else if e/8 % 2=1/\m=ae then 0 else 1)
 else 1
def iR(p:re):Int:=fi p.rc+jw p.sd
def da(p:re):Int:=if eS p then JA (iR p) (lW p.rc) (JC p.md) p.en else 1
theorem yY{f:X4}(h:yF f=ae):(5<=f.bits/\f.bits<=8)/\(0<=f.par/\f.par<=2)/\(1<=f.stop/\f.stop<=2):=by
 simp only[yF,aE,decide_eq_true_eq] at h
 omega
theorem zdp{b c:Int}(h:¬((5<=a/\a<=8)/\(0<=b/\b<=2)/\(1<=c/\c<=2))):yF ⟨a,b,c⟩=aa:=by
 cases hc:yF ⟨a,b,c⟩ with
 |false=>rfl
 |true=>exact absurd (yY hc) h
variable{p:re}
theorem dV(h:eS p=ae):yF p.f=ae/\(0<=p.en/\p.en<=15)/\(0<=p.co/\p.co<=3)/\ir p.rc=ae/\lK p.sd=ae:=by
 simp only[eS,aE,decide_eq_true_eq] at h
 exact⟨h.1.1.1.1,h.1.1.1.2,h.1.1.2,h.1.2,h.2⟩
theorem jz{f:X4}{e c:Int}{r:yy}{m:Jp}(h1:yF f=ae)(h2:0<=e/\e<=15)(h3:0<=c/\c<=3)(h4:ir r=ae)(h5:lK s=ae):eS ⟨f,e,c,r,s,m⟩=ae:=by
 simp[eS,h1,h2.1,h2.2,h3.1,h3.2,h4,h5]
theorem tU(h:eS p=ae):0<=iR p/\iR p<=127:=by
 obtain⟨_,_,_,h1,h2⟩:=dV h
 simp only[iR,fi,jw,h1,h2,if_true]
 have:0<=rK p.rc.items/\rK p.rc.items<=9:=by
  unfold rK
  split
  ·omega
  ·split
   ·omega
   ·split<;>omega
 split<;>split<;>first|omega|(split<;>omega)
def UQ(x y:re):Bool:=decide ((x.f.bits=y.f.bits/\x.f.par=y.f.par/\x.f.stop=y.f.stop)/\x.en=y.en/\x.co=y.co/\(x.md.c=y.md.c/\x.md.h=y.md.h/\x.md.cc=y.md.cc/\x.md.hc=y.md.hc)/\(x.rc.room=y.rc.room/\x.rc.mL=y.rc.mL/\x.rc.lost=y.rc.lost/\x.rc.Sy=y.rc.Sy/\x.rc.items=y.rc.items)/\(x.sd.room=y.sd.room/\x.sd.shift=y.sd.shift/\x.sd.left=y.sd.left/\x.sd.items=y.sd.items))
theorem bL(x:re):UQ x x=ae:=by simp[UQ]
structure iY where
 p:re
 tp:List Int
 out:List Int
 jW:Int
 lost:Int
def iY.d(x:iY):List DL:=x.p.d++[.s 3 (.ints x.tp),.s 3 (.ints x.out),.v (.int .i64 x.jW),.v (.int .i64 x.lost)]
def DQ(l:List Int):Bool:=decide (l.length<=32) && ko l
def SJ(n:Int):Bool:=decide (0<=n) && decide (n<=999)
def jj(x:iY):Bool:=eS x.p && DQ x.tp && DQ x.out && SJ x.jW && SJ x.lost
def V3:iY:=⟨C9,[],[],0,0⟩
structure zmr where
 x:iY
 ok:Bool
def zmr.d(x:zmr):DV:=.t [.inr x.x.d,.inl (.v (.bool x.ok))]
variable{x:iY}
theorem fu(h:jj x=ae):eS x.p=ae/\(x.tp.length<=32/\ko x.tp=ae)/\(x.out.length<=32/\ko x.out=ae)/\(0<=x.jW/\x.jW<=999)/\(0<=x.lost/\x.lost<=999):=by
 simp only[jj,DQ,SJ,aE,decide_eq_true_eq] at h
 exact⟨h.1.1.1.1,h.1.1.1.2,h.1.1.2,h.1.2,h.2⟩
theorem pV(h1:eS x.p=ae)(h2:x.tp.length<=32/\ko x.tp=ae)(h3:x.out.length<=32/\ko x.out=ae)(h4:0<=x.jW/\x.jW<=999)(h5:0<=x.lost/\x.lost<=999):jj x=ae:=by
 simp[jj,DQ,SJ,h1,h2.1,h2.2,h3.1,h3.2,h4.1,h4.2,h5.1,h5.2]
structure yx where
 a:iY
 b:iY
def yx.d(x:yx):List DL:=x.a.d++x.b.d
def ov(x:yx):Bool:=jj x.a && jj x.b && decide (x.a.p.f.bits=x.b.p.f.bits/\x.a.p.f.par=x.b.p.f.par/\x.a.p.f.stop=x.b.p.f.stop)
def Yu:yx:=⟨V3,V3⟩
structure SG where
 l:yx
 ok:Bool
def SG.d(x:SG):DV:=.t [.inr x.l.d,.inl (.v (.bool x.ok))]
def zED(x:yx):SG:=if ov x then ⟨⟨x.b,x.a⟩,ae⟩ else ⟨Yu,aa⟩
def Po(x y:iY):Bool:=UQ x.p y.p && decide (x.tp=y.tp/\x.out=y.out/\x.jW=y.jW/\x.lost=y.lost)
theorem zbX(x:iY):Po x x=ae:=by simp[Po,bL]
def YP(x y:yx):Bool:=Po x.a y.a && Po x.b y.b
theorem jm(x:yx):YP x x=ae:=by simp[YP,zbX]
def wC(x:iY):Prop:=x.p.rc.items.length<=16/\x.p.sd.items.length<=16/\x.tp.length<=32/\x.out.length<=32
theorem Hd:wC V3:=⟨bw _,bw _,bw _,bw _⟩
theorem OP(h:eS p=ae):p.rc.items.length<=16/\p.sd.items.length<=16:=by
 obtain⟨_,_,_,h4,h5⟩:=dV h
 have a:=oN h4
 have b:=kC h5
 omega
theorem GV(h:jj x=ae):wC x:=by
 obtain⟨h1,h2,h3,_,_⟩:=fu h
 have a:=OP h1
 exact⟨a.1,a.2,h2.1,h3.1⟩
theorem yZ{x:yx}(h:ov x=ae):jj x.a=ae/\jj x.b=ae:=by
 simp only[ov,aE] at h
 exact⟨h.1.1,h.1.2⟩
def Xx:Env:=[]
theorem N5:bg al.prog Xx:=aC trivial
def Qz:DA [.inl .int]->(DV->Prop)->Prop:=λ⟨x,_⟩ K=>K (.l (.v (.bool (eF x))))
theorem Xq:ji al.prog 93 [.inl .int] Qz:=by
 refine bh (TR:=ja) aS aH N5 (Rn.fM Tryz.func93) rfl ?_
 rintro⟨x,_⟩ K hK _
 dsimp only[Qz] at hK
 repeat' (conv=>whnf);first|refine az.mk ?_ ?_;exact gS|refine End.mk ?_|apply gU;exact gA|refine gB ?_ ?_<;>intro hb h<;>try exact c8
 all_goals
  (refine gI hK ?_;repeat' first|exact gR|refine az.mk ?_ ?_)
  simp[eF, *]
def y9:CS:=dn [.inl .int] Qz
theorem wR:bW al.prog 93 y9:=bH Xq
def RQ:Env:=[(93,y9)]
theorem IX:bg al.prog RQ:=aC ⟨wR,trivial⟩
def Ie:DA [.inl .ints]->(DV->Prop)->Prop:=λ⟨l,_⟩ K=>K (.l (.v (.bool (ko l))))
theorem Rg:ji al.prog 58 [.inl .ints] Ie:=by
 refine bh (TR:=ja) aS aH IX (Rn.fM Tryz.func58) rfl ?_
 rintro⟨l,_⟩ K hK ⟨hl,_⟩
 dsimp only[Ie] at hK
 replace hl:=gl l hl
 repeat' (conv=>whnf);first|refine az.mk ?_ ?_;exact gS|refine End.mk ?_|apply gU;exact gA|refine gB ?_ ?_<;>intro hb h<;>try exact c8
 refine iK.inv {k:Nat // k<=l.length/\ko (l.take k)=ae} (λ⟨k,_⟩=>[(7,.l (.v (.int .i64 k)))]) (λ _=>[]) (λ⟨k,_⟩=>l.length-k) ⟨0,bw _,rfl⟩ [] ?_ ?_
 ·repeat' first|refine az.mk ?_ ?_;exact gV|exact aV
 rintro⟨k,hk,tl⟩
 repeat' (conv=>whnf);first|refine az.mk ?_ ?_;exact gS|refine End.mk ?_|apply gU;exact gA|refine gB ?_ ?_<;>intro hb h<;>try exact c8
 ·(refine gI hK ?_;repeat' first|exact gR|refine az.mk ?_ ?_)
  exact(Fc l k (by omega) h).symm
 ·have h2:ko (l.take (k+1))=ae:=by rw[uA l k (by omega),tl];exact h
  (refine ao ⟨k+1,by omega,h2⟩ (ao [] (aM ?_ ?_)))
  ·show l.length-(k+1)<l.length-k
   omega
  ·repeat' first|refine az.mk ?_ ?_;exact gV|exact aV
 ·(refine gI hK ?_;repeat' first|exact gR|refine az.mk ?_ ?_)
  rw[<-tl,bq (by omega)]
def tf:CS:=dn [.inl .ints] Ie
theorem sL:bW al.prog 58 tf:=bH Rg
def NU:Env:=[(58,tf)]
theorem FJ:bg al.prog NU:=aC ⟨sL,trivial⟩
def Es:DA [.inr [.int,.ints]]->(DV->Prop)->Prop:=λ⟨⟨r,l,_⟩,_⟩ K=>K (.l (.v (.bool (kB r l))))
theorem Nr:ji al.prog 211 [.inr [.int,.ints]] Es:=by
 refine bh (TR:=ja) aS aH FJ (Rn.fM Tryz.func211) rfl ?_
 rintro⟨⟨r,l,_⟩,_⟩ K hK ⟨⟨_,hl,_⟩,_⟩
 dsimp only[Es] at hK
 replace hl:=gl l hl
 repeat' (conv=>whnf);first|refine az.mk ?_ ?_;exact gS|refine End.mk ?_|apply gU;exact gA|refine gB ?_ ?_<;>intro hb h<;>try exact c8
 all_goals
  (refine gI hK ?_;repeat' first|exact gR|refine az.mk ?_ ?_)
  simp[kB, *]
def D3:CS:=dn [.inr [.int,.ints]] Es
theorem Kf:bW al.prog 211 D3:=bH Nr
def zbA:Env:=[]
theorem T2:bg al.prog zbA:=aC trivial
def ZF:DA [.inl .int,.inl .int,.inl .int]->(DV->Prop)->Prop:=λ⟨x,a,b,_⟩ K=>K (.l (.v (.bool (decide (a<=x) && decide (x<=b)))))
theorem zbv:ji al.prog 56 [.inl .int,.inl .int,.inl .int] ZF:=by
 refine bh (TR:=ja) aS aH T2 (Rn.fM Tryz.func56) rfl ?_
 rintro⟨x,a,b,_⟩ K hK _
 dsimp only[ZF] at hK
 repeat' (conv=>whnf);first|refine az.mk ?_ ?_;exact gS|refine End.mk ?_|apply gU;exact gA|refine gB ?_ ?_<;>intro hb h<;>try exact c8
 all_goals
  (refine gI hK ?_;repeat' first|exact gR|refine az.mk ?_ ?_)
  simp[*]
def mj:CS:=dn [.inl .int,.inl .int,.inl .int] ZF
theorem iW:bW al.prog 56 mj:=bH zbv
def TZ:Env:=[(56,mj)]
theorem Ll:bg al.prog TZ:=aC ⟨iW,trivial⟩
def ML:DA [.inl .ints]->(DV->Prop)->Prop:=λ⟨l,_⟩ K=>K (.l (.v (.bool (ko l))))
theorem Tu:ji al.prog 129 [.inl .ints] ML:=by
 refine bh (TR:=ja) aS aH Ll (Rn.fM Tryz.func129) rfl ?_
 rintro⟨l,_⟩ K hK ⟨hl,_⟩
 dsimp only[ML] at hK
 replace hl:=gl l hl
 repeat' (conv=>whnf);first|refine az.mk ?_ ?_;exact gS|refine End.mk ?_|apply gU;exact gA|refine gB ?_ ?_<;>intro hb h<;>try exact c8
 refine iK.inv {k:Nat // k<=l.length/\ko (l.take k)=ae} (λ⟨k,_⟩=>[(3,.l (.v (.int .i64 k)))]) (λ _=>[]) (λ⟨k,_⟩=>l.length-k) ⟨0,bw _,rfl⟩ [] ?_ ?_
 ·repeat' first|refine az.mk ?_ ?_;exact gV|exact aV
 rintro⟨k,hk,tl⟩
 repeat' (conv=>whnf);first|refine az.mk ?_ ?_;exact gS|refine End.mk ?_|apply gU;exact gA|refine gB ?_ ?_<;>intro hb h<;>try exact c8
 ·(refine gI hK ?_;repeat' first|exact gR|refine az.mk ?_ ?_)
  exact(Fc l k (by omega) (by have h3:=hb;simp[eF] at h3 ⊢;omega)).symm
 ·have h2:ko (l.take (k+1))=ae:=by rw[uA l k (by omega),tl];have h3:=hb;simp[eF] at h3 ⊢;omega
  (refine ao ⟨k+1,by omega,h2⟩ (ao [] (aM ?_ ?_)))
  ·show l.length-(k+1)<l.length-k
   omega
  ·repeat' first|refine az.mk ?_ ?_;exact gV|exact aV
 ·(refine gI hK ?_;repeat' first|exact gR|refine az.mk ?_ ?_)
  rw[<-tl,bq (by omega)]
def vH:CS:=dn [.inl .ints] ML
theorem uF:bW al.prog 129 vH:=bH Tu
def IP:Env:=[]
theorem Cg:bg al.prog IP:=aC trivial
def Ah:DA [.inr [.int,.int,.int]]->(DV->Prop)->Prop:=λ⟨⟨fb,fq,fst,_⟩,_⟩ K=>K (.l (.v (.bool (yF ⟨fb,fq,fst⟩))))
theorem II:ji al.prog 140 [.inr [.int,.int,.int]] Ah:=by
 refine bh (TR:=ja) aS aH Cg (Rn.fM Tryz.func140) rfl ?_
 rintro⟨⟨(fb:Int),(fq:Int),(fst:Int),_⟩,_⟩ K hK _
 dsimp only[Ah] at hK
 repeat' (conv=>whnf);first|refine az.mk ?_ ?_;exact gS|refine End.mk ?_|apply gU;exact gA|refine gB ?_ ?_<;>intro hb h<;>try exact c8
 all_goals
  (refine gI hK ?_;repeat' first|exact gR|refine az.mk ?_ ?_)
  first
  |exact(zdp (by omega)).symm
  |(simp[yF, *]<;>omega)
def sK:CS:=dn [.inr [.int,.int,.int]] Ah
theorem uO:bW al.prog 140 sK:=bH II
def Ja:Env:=[(56,mj)]
theorem Cn:bg al.prog Ja:=aC ⟨iW,trivial⟩
def Ak:DA [.inr [.int,.int,.int]]->(DV->Prop)->Prop:=λ⟨⟨fb,fq,fst,_⟩,_⟩ K=>K (.l (.v (.bool (yF ⟨fb,fq,fst⟩))))
theorem IL:ji al.prog 193 [.inr [.int,.int,.int]] Ak:=by
 refine bh (TR:=ja) aS aH Cn (Rn.fM Tryz.func193) rfl ?_
 rintro⟨⟨(fb:Int),(fq:Int),(fst:Int),_⟩,_⟩ K hK _
 dsimp only[Ak] at hK
 repeat' (conv=>whnf);first|refine az.mk ?_ ?_;exact gS|refine End.mk ?_|apply gU;exact gA|refine gB ?_ ?_<;>intro hb h<;>try exact c8
 all_goals
  (refine gI hK ?_;repeat' first|exact gR|refine az.mk ?_ ?_)
  first
  |exact(zdp (by omega)).symm
  |(simp[yF, *]<;>omega)
  |(simp_all [yF]<;>omega)
def sO:CS:=dn [.inr [.int,.int,.int]] Ak
theorem uS:bW al.prog 193 sO:=bH IL
def KH:Env:=[(140,sK)]
theorem Dk:bg al.prog KH:=aC ⟨uO,trivial⟩
def BU:DA [.inr [.int,.int,.int]]->(DV->Prop)->Prop:=λ⟨⟨fb,fq,fst,_⟩,_⟩ K=>K (.l (.v (.int .i64 (O7 ⟨fb,fq,fst⟩))))
theorem Kv:ji al.prog 216 [.inr [.int,.int,.int]] BU:=by
 refine bh (TR:=ja) aS aH Dk (Rn.fM Tryz.func216) rfl ?_
 rintro⟨⟨(fb:Int),(fq:Int),(fst:Int),_⟩,_⟩ K hK _
 dsimp only[BU] at hK
 refine fw (p:=yF ⟨fb,fq,fst⟩=ae) (λ hv=>?_) (λ hv=>?_)
 ·have Uz:=yY hv
  dsimp only at Uz
  repeat' (conv=>whnf);first|refine az.mk ?_ ?_;exact gS|refine End.mk ?_|apply gU;exact gA|refine gB ?_ ?_<;>intro hb h<;>try exact c8
  all_goals
   (refine gI hK ?_;repeat' first|exact gR|refine az.mk ?_ ?_)
   simp only[O7,hv,if_true]
   repeat' split
   all_goals omega
 ·replace hv:yF ⟨fb,fq,fst⟩=aa:=by simpa using hv
  repeat' (conv=>whnf);first|refine az.mk ?_ ?_;exact gS|refine End.mk ?_|apply gU;exact gA|refine gB ?_ ?_<;>intro hb h<;>try exact c8
  (refine gI hK ?_;repeat' first|exact gR|refine az.mk ?_ ?_)
  simp[O7,hv]
def BB:CS:=dn [.inr [.int,.int,.int]] BU
theorem Iy:bW al.prog 216 BB:=bH Kv
def KY:Env:=[(193,sO)]
theorem Dv:bg al.prog KY:=aC ⟨uS,trivial⟩
def B1:DA [.inr [.int,.int,.int]]->(DV->Prop)->Prop:=λ⟨⟨fb,fq,fst,_⟩,_⟩ K=>K (.l (.v (.int .i64 (O7 ⟨fb,fq,fst⟩))))
theorem KD:ji al.prog 208 [.inr [.int,.int,.int]] B1:=by
 refine bh (TR:=ja) aS aH Dv (Rn.fM Tryz.func208) rfl ?_
 rintro⟨⟨(fb:Int),(fq:Int),(fst:Int),_⟩,_⟩ K hK _
 dsimp only[B1] at hK
 refine fw (p:=yF ⟨fb,fq,fst⟩=ae) (λ hv=>?_) (λ hv=>?_)
 ·have Uz:=yY hv
  dsimp only at Uz
  repeat' (conv=>whnf);first|refine az.mk ?_ ?_;exact gS|refine End.mk ?_|apply gU;exact gA|refine gB ?_ ?_<;>intro hb h<;>try exact c8
  all_goals
   (refine gI hK ?_;repeat' first|exact gR|refine az.mk ?_ ?_)
   simp only[O7,hv,if_true]
   repeat' split
   all_goals omega
 ·replace hv:yF ⟨fb,fq,fst⟩=aa:=by simpa using hv
  repeat' (conv=>whnf);first|refine az.mk ?_ ?_;exact gS|refine End.mk ?_|apply gU;exact gA|refine gB ?_ ?_<;>intro hb h<;>try exact c8
  (refine gI hK ?_;repeat' first|exact gR|refine az.mk ?_ ?_)
  simp[O7,hv]
def BK:CS:=dn [.inr [.int,.int,.int]] B1
theorem IE:bW al.prog 208 BK:=bH KD
def x9:Env:=[]
theorem Ds:bg al.prog x9:=aC trivial
def Oy:Nat->Tr:=λ n=>match n with
 |1=>.op 0 0 (.op 1 0 (.op 2 0 (.op 3 0 (.op 4 0 (.op 5 0 (.op 6 0 (.op 7 0 (.op 8 0 (.op 9 0 (.op 10 1 (.op 11 1 (.op 12 1 (.op 13 1 (.op 14 1 (.op 15 2 (.nil))))))))))))))))
 |_=>.nil
def qg:CS:=Jt jV x9 Oy Tryz.f152
theorem ql:bW al.prog 152 qg:=iy aS aH Ds (Rn.fM Tryz.func152)
def RK:Env:=[(152,qg)]
theorem IS:bg al.prog RK:=aC ⟨ql,trivial⟩
def Uh:Nat->Tr:=λ n=>match n with
 |5=>.op 0 0 (.op 1 0 (.op 2 0 (.op 3 0 (.op 4 1 (.op 5 1 (.op 6 1 (.op 7 1 (.nil))))))))
 |7=>.op 0 0 (.op 1 0 (.op 2 1 (.op 3 1 (.op 4 1 (.op 5 1 (.op 6 2 (.nil)))))))
 |_=>.nil
def H9:DA [.inr [.bool,.bool,.bool,.bool],.inl .bool,.inl .bool]->(DV->Prop)->Prop:=λ⟨⟨mc,mh,cy,cz,_⟩,c1,h1,_⟩ K=>K (.a (Jp.d (GN ⟨mc,mh,cy,cz⟩ c1 h1)))
theorem Ra:ji al.prog 80 [.inr [.bool,.bool,.bool,.bool],.inl .bool,.inl .bool] H9:=by
 refine bh (TR:=Uh) aS aH IS (Rn.fM Tryz.func80) rfl ?_
 dsimp only[DA,HL,Sh.T]
 rintro⟨⟨mc,mh,cy,cz,_⟩,c1,h1,_⟩ K hK _
 dsimp only[H9] at hK
 repeat' (conv=>whnf);first|refine az.mk ?_ ?_;exact gS|refine End.mk ?_|apply gU;exact gA|refine gB ?_ ?_<;>intro hb h<;>try exact c8
 refine iK.it 3 ?_
 repeat' (conv=>whnf);first|refine az.mk ?_ ?_;exact gS|refine End.mk ?_|apply gU;exact gA|refine gB ?_ ?_<;>intro hb h<;>try exact c8
 all_goals
  (refine gI hK ?_;repeat' first|exact gR|refine az.mk ?_ ?_)
  all_goals (clear hK;first|(simp_all [GN];done)|(cases mc<;>cases c1<;>cases mh<;>cases h1<;>simp_all [GN]))
def Hy:CS:=dn [.inr [.bool,.bool,.bool,.bool],.inl .bool,.inl .bool] H9
theorem M3:bW al.prog 80 Hy:=bH Ra
def R8:Env:=[]
theorem Jc:bg al.prog R8:=aC trivial
def Iq:DA [.inr [.bool,.bool,.bool,.bool],.inl .bool,.inl .bool]->(DV->Prop)->Prop:=λ⟨⟨mc,mh,cy,cz,_⟩,c1,h1,_⟩ K=>K (.a (Jp.d (GN ⟨mc,mh,cy,cz⟩ c1 h1)))
theorem Ru:ji al.prog 196 [.inr [.bool,.bool,.bool,.bool],.inl .bool,.inl .bool] Iq:=by
 refine bh (TR:=ja) aS aH Jc (Rn.fM Tryz.func196) rfl ?_
 dsimp only[DA,HL,Sh.T]
 rintro⟨⟨mc,mh,cy,cz,_⟩,c1,h1,_⟩ K hK _
 dsimp only[Iq] at hK
 repeat' (conv=>whnf);first|refine az.mk ?_ ?_;exact gS|refine End.mk ?_|apply gU;exact gA|refine gB ?_ ?_<;>intro hb h<;>try exact c8
 all_goals
  (refine gI hK ?_;repeat' first|exact gR|refine az.mk ?_ ?_)
  all_goals (clear hK;first|(simp_all [GN];done)|(cases mc<;>cases c1<;>cases mh<;>cases h1<;>simp_all [GN]))
def HU:CS:=dn [.inr [.bool,.bool,.bool,.bool],.inl .bool,.inl .bool] Iq
theorem Nh:bW al.prog 196 HU:=bH Ru
def NW:Env:=[(152,qg)]
theorem FM:bg al.prog NW:=aC ⟨ql,trivial⟩
def Eu:DA [.inr [.bool,.bool,.bool,.bool]]->(DV->Prop)->Prop:=λ⟨⟨mc,mh,cy,cz,_⟩,_⟩ K=>K (.t [.inr (Jp.d (JL ⟨mc,mh,cy,cz⟩)),.inl (.v (.int .i64 (wF ⟨mc,mh,cy,cz⟩)))])
theorem Nt:ji al.prog 217 [.inr [.bool,.bool,.bool,.bool]] Eu:=by
 refine bh (TR:=ja) aS aH FM (Rn.fM Tryz.func217) rfl ?_
 dsimp only[DA,HL,Sh.T]
 rintro⟨⟨mc,mh,cy,cz,_⟩,_⟩ K hK _
 dsimp only[Eu] at hK
 repeat' (conv=>whnf);first|refine az.mk ?_ ?_;exact gS|refine End.mk ?_|apply gU;exact gA|refine gB ?_ ?_<;>intro hb h<;>try exact c8
 refine iK.it 3 ?_
 repeat' (conv=>whnf);first|refine az.mk ?_ ?_;exact gS|refine End.mk ?_|apply gU;exact gA|refine gB ?_ ?_<;>intro hb h<;>try exact c8
 all_goals
  (refine gI hK ?_;repeat' first|exact gR|refine az.mk ?_ ?_)
  all_goals (clear hK;first|(simp_all [wF];done)|(subst_vars;decide))
def D4:CS:=dn [.inr [.bool,.bool,.bool,.bool]] Eu
theorem Kg:bW al.prog 217 D4:=bH Nt
def Oa:Env:=[]
theorem F5:bg al.prog Oa:=aC trivial
def EG:DA [.inr [.bool,.bool,.bool,.bool]]->(DV->Prop)->Prop:=λ⟨⟨mc,mh,cy,cz,_⟩,_⟩ K=>K (.t [.inr (Jp.d (JL ⟨mc,mh,cy,cz⟩)),.inl (.v (.int .i64 (wF ⟨mc,mh,cy,cz⟩)))])
theorem NH:ji al.prog 209 [.inr [.bool,.bool,.bool,.bool]] EG:=by
 refine bh (TR:=ja) aS aH F5 (Rn.fM Tryz.func209) rfl ?_
 dsimp only[DA,HL,Sh.T]
 rintro⟨⟨mc,mh,cy,cz,_⟩,_⟩ K hK _
 dsimp only[EG] at hK
 repeat' (conv=>whnf);first|refine az.mk ?_ ?_;exact gS|refine End.mk ?_|apply gU;exact gA|refine gB ?_ ?_<;>intro hb h<;>try exact c8
 all_goals
  (refine gI hK ?_;repeat' first|exact gR|refine az.mk ?_ ?_)
  all_goals (clear hK;first|(simp_all [wF];done)|(subst_vars;decide))
def Ea:CS:=dn [.inr [.bool,.bool,.bool,.bool]] EG
theorem Km:bW al.prog 209 Ea:=bH NH
def FL:Env:=[(152,qg)]
theorem Az:bg al.prog FL:=aC ⟨ql,trivial⟩
def yh:DA [.inr [.bool,.bool,.bool,.bool]]->(DV->Prop)->Prop:=λ⟨⟨mc,mh,cy,cz,_⟩,_⟩ K=>K (.l (.v (.bool (JC ⟨mc,mh,cy,cz⟩))))
theorem FG:ji al.prog 91 [.inr [.bool,.bool,.bool,.bool]] yh:=by
 refine bh (TR:=ja) aS aH Az (Rn.fM Tryz.func91) rfl ?_
 dsimp only[DA,HL,Sh.T]
 rintro⟨⟨mc,mh,cy,cz,_⟩,_⟩ K hK _
 dsimp only[yh] at hK
 repeat' (conv=>whnf);first|refine az.mk ?_ ?_;exact gS|refine End.mk ?_|apply gU;exact gA|refine gB ?_ ?_<;>intro hb h<;>try exact c8
 refine iK.it 3 ?_
 repeat' (conv=>whnf);first|refine az.mk ?_ ?_;exact gS|refine End.mk ?_|apply gU;exact gA|refine gB ?_ ?_<;>intro hb h<;>try exact c8
 all_goals
  (refine gI hK ?_;repeat' first|exact gR|refine az.mk ?_ ?_)
  all_goals (clear hK;simp_all [JC];done)
def xV:CS:=dn [.inr [.bool,.bool,.bool,.bool]] yh
theorem Df:bW al.prog 91 xV:=bH FG
def F4:Env:=[]
theorem AG:bg al.prog F4:=aC trivial
def yj:DA [.inr [.bool,.bool,.bool,.bool]]->(DV->Prop)->Prop:=λ⟨⟨mc,mh,cy,cz,_⟩,_⟩ K=>K (.l (.v (.bool (JC ⟨mc,mh,cy,cz⟩))))
theorem FI:ji al.prog 204 [.inr [.bool,.bool,.bool,.bool]] yj:=by
 refine bh (TR:=ja) aS aH AG (Rn.fM Tryz.func204) rfl ?_
 dsimp only[DA,HL,Sh.T]
 rintro⟨⟨mc,mh,cy,cz,_⟩,_⟩ K hK _
 dsimp only[yj] at hK
 repeat' (conv=>whnf);first|refine az.mk ?_ ?_;exact gS|refine End.mk ?_|apply gU;exact gA|refine gB ?_ ?_<;>intro hb h<;>try exact c8
 all_goals
  (refine gI hK ?_;repeat' first|exact gR|refine az.mk ?_ ?_)
  all_goals (clear hK;simp_all [JC];done)
def x6:CS:=dn [.inr [.bool,.bool,.bool,.bool]] yj
theorem Di:bW al.prog 204 x6:=bH FI
end
end Go.Proofs.YtdpfknhenjngcaaGreatDoor
