/-
  The lone walks (part 9). No condition.
-/
import Derived.Test.YtelohkknmgaacaaGreatDoorZ8
import Derived.Laws.OwnMore
import Derived.Laws.MakeOwn
import Derived.Deep.Cut
import Derived.Deep.CutRange
set_option linter.unusedSimpArgs false
set_option linter.unusedVariables false
set_option linter.unusedSectionVars false
set_option linter.defProp false
set_option maxRecDepth 100000
set_option maxHeartbeats 2000000
open Array renaming length_toList→cv,getElem?_eq_some_iff→ab,getElem?_setIfInBounds_ne→bZ,range→gw,toList_map→mD,toList_inj→bj,replicate→aK
open BitVec renaming ofInt→aS
open Bool renaming and_eq_true→aj,or_eq_true→dm
open Classical renaming byCases→eK
open Functor renaming map→l6
open Go renaming World→V,Value→Y,TypeId→ah,madeCells→xv,FuncId→bu,Operand→aU,execOp→aG,maxLen→tg,Oper→bU,Exit→mN,heap_alloc_new→jZ,newRow→xV,run_underlying→aT,setRow_heap→Be,setRow_other→yM,Deferred→dI,Program→al,Exit.then→Cq,ResultVar→kP,Func→dH,Calls→dE,bodyPost_ret→dB
open Go.Act renaming eval→a8
open Go.Calls renaming mono→b9
open Go.Deferred renaming ofValue→ey
open Go.Ending renaming returned→nv
open Go.Instr renaming mapUpdate→fL,buildSlice→mE,storeAt→jG,sureAddr→cC,loadAt→dz
open Go.IntKind renaming i64→aD
open Go.Oper renaming wp→ig
open Go.Region renaming wanted→ar
open Go.Result renaming andThen_ok→aL
open Go.RowKit renaming Below→cj
open Go.RowKit.Below renaming refl→fq,setCell→dh
open Go.RowKit.Hid renaming out→eh
open Go.Value renaming int→cL,cells→vj,ownBlock→l9,pointer→kY,agg→nU,slice→dR
open Go.Value.slice renaming injEq→bN
open Int renaming eq_ofNat_of_zero_le→ee,toNat_natCast→jr,emod_nonneg→gN,emod_lt_of_pos→nK
open List renaming eq_nil_of_length_eq_zero→cq,replicate→aP,replicate_succ→sk,flatMap_cons→cP,getElem?_replicate→dr,map_replicate→uy,flatMap_append→mU,cons_append→j0,nil_append→gX,set_eq_take_append_cons_drop→c7,map_append→kN,map_cons→cQ,length_append→bJ,length_take→da,getElem?_set_ne→bW,take_length→xz,length_cons→aW,mem_of_getElem?→fb,getElem?_cons_zero→bz,getElem?_eq_getElem→aN,getElem?_append_left→cg,getElem?_append_right→iQ,foldlM_cons→fY,nodup_append→fw,getElem?_concat_length→sO,getElem?_eq_some_iff→bQ,mem_cons→bq,all_cons→fh,take_add_one→cW,getD→nT,take_of_length_le→aM,nodup_nil→Bp,append_nil→eu
open Nat renaming le_refl→ao,add_mul→fK,mod_one→Lq,min_eq_left→dn,le_of_lt→ym,add_assoc→gq,eq_of_beq_eq_true→aE,mul_le_mul_left→sn,le_mul_of_pos_right→oo,mul_le_mul_right→bk,zero_le→a7,add_zero→dA,zero_add→ew,le_trans→bw,lt_of_lt_of_le→aO,ble_eq→x9,beq_eq→tC,beq→bD,ble→eI,mod_eq_of_lt→xB,mod_lt→kv,mul_add→Lr
open Option renaming map_eq_some_iff→ak,map_some→cG,bind_some→fZ
open Option.some renaming injEq→ay,inj→fO
open Prod.mk renaming injEq→aX
open Bool renaming true→E,false→H
open Option renaming some→C,none→U
namespace Go.Proofs.YtelohkknmgaacaaGreatDoor
open Go.Proofs.Tryz
section
open Go.RowKit
namespace Ab
section
variable{P:al}{cx:Cx}{β:List En}{hp:Hp}{w:V}
def zjv(w:V)(o:Obj):cj w.heap.size w (w.alloc o):=(fq _ _).alloc (ao _) o
variable{v:Y}
def ziB{s:Sem Y}{w w':V}(h:s.run P w=.ok v w'):(do pure (Next.value (←s)):Sem Next).run P w=.ok (.value v) w':=by simp[h]
def gi.ext'{bR:List En}(a:uZ β bR){x:List LV}{vs:List Y}(h:gi cx β x vs):gi cx bR x vs:=gi.ext a h
def zkW{s d e:ah}(n:P.underlying s=C (.slice e))(j:P.underlying e=C (.int .u8))(p:P.underlying d=C .string){l:List UInt8}(h:Sl w 1 v l.length (EL.bytes l).di):(convert s d v).run P w=.ok (fR l) w:=by
 obtain⟨a,c,rfl,m⟩:=h.form;have i:(a=U/\l=[])\/∃ad,a=C ad/\(loadCells ad l.length).run P w=.ok ((l.map λb=>(b.toNat:Int)).map (cL .u8)).toArray w:=by cases a with|none=>refine .inl ⟨rfl,cq (Nat.eq_zero_of_not_pos λf=>?_)⟩;have⟨_,_,e,_⟩:=m 0 f;cases e|some ad=>
  refine .inr ⟨ad,rfl,?_⟩;by_cases f:0<l.length
  .have⟨g,o,e,_⟩:=m 0 f;cases e;have:=run_loadCells_list (P:=P) w ⟨g,o,U⟩ (EL.bytes l).di (Sl.cells h f);simpa[EL.di,Function.comp_def]using this
  .have e:l=[]:=Y7;subst e;simp[loadCells,loadCellsFrom]
 rw[run_convert_bytes_string w s d e a l.length c n j p];rcases i with⟨rfl,rfl⟩|⟨ad,rfl,k⟩;.simp[Conv.bytesToString,fR];rfl
 .rw[run_bytesToString w ad l.length c _ k,foldl_push_byteCells];simp[fR,ByteArray.empty,ByteArray.emptyWithCapacity];rfl
def zkR(a:EK)(n:Nat):(a.S6 n).sz=a.sz/\(a.S6 n).len=n/\(a.S6 n).di=(xv a.zero.cells (n*a.sz)).toList:=by
 refine⟨by cases a<;>rfl,by cases a<;>simp[EK.S6,EL.len],?_⟩;apply List.ext_getElem?;intro j;have h:∀n:Nat,(aP n ((0:Int),(0:Int))).flatMap (λg=>[cL .i64 g.1,.int .i64 g.2])=aP (n*2) (.int .i64 0):=by intro n;induction n with|zero=>rfl|succ n i=>rw[sk,cP,i,fK];rfl
 have b:∀n:Nat,(aP n ((0:Int),(0:Int),(0:Int))).flatMap (λg=>[cL .i64 g.1,.int .i64 g.2.1,.int .i64 g.2.2])=aP (n*3) (.int .i64 0):=by intro n;induction n with|zero=>rfl|succ n i=>rw[sk,cP,i,fK];rfl
 cases a with
 |k3=>
  simp[EK.S6,EL.di,EK.zero,EK.sz,xv,b,dr];by_cases c:j<n*3
  .have:j%3=0\/j%3=1\/j%3=2:=Y0;rcases this with e|e|e<;>simp[c,vj,e]
  .simp[c]|bn=>
  simp[EK.S6,EL.di,EK.zero,EK.sz,xv,uy,dr];by_cases c:j<n;.simp[c,Lq,vj]
  .simp[c]|bytes=>
  simp[EK.S6,EL.di,EK.zero,EK.sz,xv,uy,dr];by_cases c:j<n;.simp[c,Lq,vj]
  .simp[c]|strs=>
  simp[EK.S6,EL.di,EK.zero,EK.sz,xv,uy,dr];by_cases c:j<n;.simp[c,Lq,vj,fR]
  .simp[c]|bC=>
  simp[EK.S6,EL.di,EK.zero,EK.sz,xv,h,dr];by_cases c:j<n*2
  .have:j%2=0\/j%2=1:=Y0;rcases this with e|e<;>simp[c,vj,e]
  .simp[c]
def zcz(l:List (Int×Int))(i:Nat)(h:i<l.length):∃A B:List Y,A.length=i*2/\(EL.bC l).di=A++.int .i64 (l.getD i (0,0)).1::.int .i64 (l.getD i (0,0)).2::B/\∀g:Int×Int,(EL.bC (l.set i g)).di=A++.int .i64 g.1::.int .i64 g.2::B:=by
 refine⟨(EL.bC (l.take i)).di,(EL.bC (l.drop (i+1))).di,?_,?_,λg=>?_⟩
 .have:=EL.Gd (.bC (l.take i));rw[this];simp[EL.len,EL.sz,dn (ym h)]
 .have e:l=l.take i++l[i]::l.drop (i+1):=by simp_all
  have a:l.getD i (0,0)=l[i]:=Y7;rw[a];conv=>lhs;rw[e]
  simp only[EL.di,mU,cP,j0,gX]
 .rw[c7,if_pos h];simp[EL.di,mU,cP,j0,gX]
def zkl(l:List (Int×Int×Int))(i:Nat)(h:i<l.length):∃(A B:List Y)(x y z:Y),A.length=i*3/\(EL.k3 l).di=A++x::y::z::B/\∀g:Int×Int×Int,(EL.k3 (l.set i g)).di=A++.int .i64 g.1::.int .i64 g.2.1::.int .i64 g.2.2::B:=by
 refine⟨(EL.k3 (l.take i)).di,(EL.k3 (l.drop (i+1))).di,.int .i64 l[i].1,.int .i64 l[i].2.1,.int .i64 l[i].2.2,?_,?_,λg=>?_⟩
 .have:=EL.Gd (.k3 (l.take i));rw[this];simp[EL.len,EL.sz,dn (ym h)]
 .have e:l=l.take i++l[i]::l.drop (i+1):=by simp_all
  conv=>lhs;rw[e]
  simp only[EL.di,mU,cP,j0,gX]
 .rw[c7,if_pos h];simp[EL.di,mU,cP,j0,gX]
def zcF(l:List Int)(i:Nat)(h:i<l.length):∃(A B:List Y)(y:Y),A.length=i/\(EL.bn l).di=A++y::B/\∀g:Int,(EL.bn (l.set i g)).di=A++.int .i64 g::B:=by
 refine⟨(EL.bn (l.take i)).di,(EL.bn (l.drop (i+1))).di,.int .i64 l[i],?_,?_,λg=>?_⟩;.simp[EL.di,dn (ym h)]
 .have e:l=l.take i++l[i]::l.drop (i+1):=by simp_all
  conv=>lhs;rw[e]
  simp only[EL.di,kN,cQ]
 .rw[c7,if_pos h];simp[EL.di,kN,cQ]
def zdi(l:List (List UInt8))(i:Nat)(h:i<l.length):∃(A B:List Y)(y:Y),A.length=i/\(EL.strs l).di=A++y::B/\∀g:List UInt8,(EL.strs (l.set i g)).di=A++fR g::B:=by
 refine⟨(EL.strs (l.take i)).di,(EL.strs (l.drop (i+1))).di,fR l[i],?_,?_,λg=>?_⟩;.simp[EL.di,dn (ym h)]
 .have e:l=l.take i++l[i]::l.drop (i+1):=by simp_all
  conv=>lhs;rw[e]
  simp only[EL.di,kN,cQ]
 .rw[c7,if_pos h];simp[EL.di,kN,cQ]
def zcZ{l:EL}{i o:Nat}{s:List LV}{m:List Y}{K:EL->Prop}(n:gi cx β s m)(c:i<l.len)(h:ziv l i o s K):∃j,K j/\j.len=l.len/\j.sz=l.sz/\o+s.length<=l.sz/\j.di=l.di.take (i*l.sz+o)++m++l.di.drop (i*l.sz+o+m.length):=by
 have p:∀{x:Y}{m:List Y},gi cx β [.v x] m->m=[x]:=λ{x m}n=>by cases m with|nil=>cases n|cons a r=>cases r with|nil=>have⟨⟨_,e⟩,_⟩:=n;rw[e]|cons _ _=>cases n.2
 have q:∀{x y:Y}{m:List Y},gi cx β [.v x,.v y] m->m=[x,y]:=λ{x y m}n=>by cases m with|nil=>cases n|cons a r=>have⟨⟨_,e⟩,b⟩:=n;rw[e,p b]
 have t:∀{x y z:Y}{m:List Y},gi cx β [.v x,.v y,.v z] m->m=[x,y,z]:=λ{x y z m}n=>by cases m with|nil=>cases n|cons a r=>have⟨⟨_,e⟩,b⟩:=n;rw[e,q b]
 unfold ziv at h;split at h
 .rename_i l;split at h
  .split at h
   .rename_i x;have e:=p n;subst e;have⟨A,B,y,f,b,d⟩:=zcF l i c;refine⟨_,h,by simp[EL.len],rfl,by simp[EL.sz],?_⟩;rw[d,b];simp[EL.sz,<-f]
   .cases h
  .cases h
 .rename_i l;have⟨A,B,f,b,d⟩:=zcz l i c;have g:i*(EL.bC l).sz=A.length:=f.symm;split at h
  .split at h
   .have e:=p n;subst e;refine⟨_,h,by simp[EL.len],rfl,by simp[EL.sz],?_⟩;rw[d,b,g];simp
   .have e:=q n;subst e;refine⟨_,h,by simp[EL.len],rfl,by simp[EL.sz],?_⟩;rw[d,b,g];simp
   .cases h
  .split at h
   .have e:=p n;subst e;refine⟨_,h,by simp[EL.len],rfl,by simp[EL.sz],?_⟩;rw[d,b,g];simp only[List.take_length_add_append,List.drop_length_add_append,gq,List.take_succ_cons,List.take_zero,List.drop_succ_cons,List.drop_zero,List.length_singleton];simp
   .cases h
  .cases h
 .cases h
 .rename_i l;have⟨A,B,w,k,D,f,b,d⟩:=zkl l i c;have g:i*(EL.k3 l).sz=A.length:=f.symm;split at h
  .split at h
   .have e:=t n;subst e;refine⟨_,h,by simp[EL.len],rfl,by simp[EL.sz],?_⟩;rw[d,b,g];simp
   .cases h
  .cases h
 .rename_i l;split at h
  .split at h
   .rename_i x;have e:m=[fR x]:=by match m,n with|[u],⟨⟨_,e⟩,_⟩=>exact congrArg (λu=>[u]) e
    subst e;have⟨A,B,y,f,b,d⟩:=zdi l i c;refine⟨_,h,by simp[EL.len],rfl,by simp[EL.sz],?_⟩;rw[d,b];simp[EL.sz,<-f]
   .cases h
  .cases h
def zcN{w:V}{o:Nat}{Q0:ah}{s g n p:Nat}{x u:List Y}{j:Nat}(h:w.ownsRow o Q0 s (.slice (C ⟨g,0,U⟩) n p) n x)(y:j+u.length<=n*s):∃m,w.heap[g]?=C (.cells m Q0 (0,0))/\j+u.length<=m.size/\∀r:V,r.heap[g]?=C (.cells (m.toList.take j++u++m.toList.drop (j+u.length)).toArray Q0 (0,0))->r.ownsRow o Q0 s (.slice (C ⟨g,0,U⟩) n p) n (x.take j++u++x.drop (j+u.length)):=by
 obtain⟨e,a|⟨z,c,m,a,f,i,b,k,d,l⟩⟩:=h;.cases a.1
 .simp[bN,ay,Addr.mk.injEq,true_and,and_true]at a;obtain⟨rfl,rfl⟩:=a;have t:n*s<=m.size:=Y8;refine⟨m,i,Y0,λr v=>⟨?_,.inr ⟨g,p,_,rfl,f,v,b,k,?_,?_⟩⟩⟩;.grind
  .grind
  .rw[<-l];apply List.ext_getElem?;intro q;simp[List.getElem?_take,List.getElem?_append,List.getElem?_drop,bJ,da,cv];rw[dn (by omega:j<=m.size),dn (by omega:n*s<=m.size),dn (by omega:j<=n*s)];repeat' split
   all_goals first|rfl|omega
def VE:∀{d:List (String×bu×Bool)}{m:String}{K:bu->Bool->Prop},zd1 d m K->∃f p,(m,f,p)∈d/\K f p
 |[],_,_,h=>h.elim|(n,f,p)::r,m,K,h=>by
  unfold zd1 at h;split at h;.grind
  .have⟨e,a,b,c⟩:=VE h;grind
variable{t:ah}
def QB{ρ:aU->Y}{dst:Option Tmp}{a:aU}{name:String}{args:Array aU}{c:Array ah}{d:ah}{pos:String}{after:Array Edge}{guard:Option (Nat×Bool)}{r:Y}{f:bu}{w:V}(e:ρ a=.iface t v)(m:(method (P.types.size+Made.depth) t v name).run P w=.ok (f,r) w)(g:(callFunc f (#[r]++args.map ρ)).run P w=.ok (.enter f (#[r]++args.map ρ)) w):(aG ρ {dst:=dst,op:=.call {callee:=.invoke a name,args:=args,argTypes:=c},type:=d,pos:=pos,after:=after,guard:=guard}).run P w=.ok (.enter f (#[r]++args.map ρ)) w:=by
 have h:(#[ρ a]++args.map ρ)[0]?=C (.iface t v):=Y8;have b:(#[ρ a]++args.map ρ).extract 1 (#[ρ a]++args.map ρ).size=args.map ρ:=by simp_all
 simp only[aG,resolve,Sem.run_bind,Sem.run_pure,aL,invoke,h,b,callMethod];simp[run_program,aL,m,g]
def zkr{a:TI}(i:IQ P t a)(I:ki cx β hp w){k n:Nat}{g:List LV}{T:ah}(c:hp[k]?=C (.b g T))(j:β[k]?=C (.b n)){K:AV->Prop}(h:zbA g 0 a.sz a.agg K):∃x v,K x/\AC cx β x v/\(loadVar t ⟨n,0,U⟩).run P w=.ok v w:=by have⟨_,u,e,l⟩:=I.Ds k _ _ c j;have⟨r,f,v,c,d⟩:=ZG i e l h;grind
def zjq{T:lJ}(Q:eV P T)(R:ki cx β hp w){f:EK}{M e:ah}{a bytes:Nat}{b:AV}{K:EL->Prop}(x:AC cx β b v)(h:zqq T hp t M f b K)(O:P.underlying t=C (.slice e))(c:(P.info? e).map (λi=>(i.zero,i.size,i.bytes))=C (C f.zero,a,bytes))(z:f.zero.cells.size=a)(p:0<a)(g:bytes<=32/\(f=.bytes->bytes=1/\P.underlying e=C (.int .u8)))(N:ah):∃m,K m/\(a=m.sz->∀(I:Y)(n:Nat)(L:List Y)(G:Nat),w.ownsRow G e a I n L->n+m.len<=1099511627776->G<=w.heap.size->zdI P w (Builtin.append_ #[t,M] N #[I,v]) G e a I (n+m.len) (L++m.di))/\m.len<=lH:=by
 have A:tg=9223372036854775807:=rfl;unfold zqq at h;split at h
 .rename_i s;split at h
  .have⟨B,k,j⟩:=dy.1 h;have y:=(Q M B k).kind;split at j
   .rename_i l;rw[l]at y;have⟨o,q⟩:=aH.1 j;obtain⟨_,rfl⟩:=x;refine⟨_,q,λu I n L G r J d=>?_,o⟩;have D:=(g.2 rfl).1;subst D;subst u;have J:n+s.length<=1099511627776:=J;exact Ss t M N G e O y c I n L r s Y0 Y0 d
   .cases j
  .cases h
 .have⟨j,o⟩:=aH.1 h;obtain rfl:=aE j;have⟨m,q,Q0,F⟩:=Js R x o;refine⟨m,q,λu I n L G r J d=>?_,F⟩;have:=sn (n+m.len) g.1;exact D4 t N G e f.zero a bytes O c z p I n L r v m.len m.di Y7 m.one Y0 Y0 d
def Pl{T:lJ}{G:bK}(hT:eV P T)(hG:Ad P G cx){W:Option (Nat×List Nat)}{rsv:Option Nat}{fr:Fr}{a:Act}{o:bU}{K:Fr->Hp->Prop}{Q:mN->Act->V->Prop}(hI:ki cx β hp w)(N:FR cx β fr a.tmps)(hr:∀k,(rsv=C k\/hp.length<=k)->SW W k)(h:zbC T G W rsv fr hp o K):o.wp P a w (zqo cx β hp w (SW W) a K) Q:=by
 have soft:(O2 T U fr hp o.op λr=>mj fr o.dst r λcm=>K cm hp)->o.wp P a w (zqo cx β hp w (SW W) a K) Q:=by intro hs;have⟨r,J,v,Q3,M⟩:=JB hT hI N hs;have⟨cm,O,Q4,R⟩:=de J N Q3;unfold ig;rw[M w rfl];exact⟨cm,hp,β,O,Q4,R,kF.refl hI⟩
 have fresh:∀(x:HB)(v:Y)(e:En)(o':Obj)(r:Nat->AV),(OL rsv hp x λk dF=>mj fr o.dst (r k) λcm=>K cm dF)->(aG a.eval o).run P w=.ok (.value v) (w.alloc o')->(∀b,nG x e=C b->w.heap.size<=b)->(∀bR,uZ β bR->HOk cx bR (w.alloc o') x e)->(∀(k:Nat)bR,bR[k]?=C e->AC cx bR (r k) v)->o.wp P a w (zqo cx β hp w (SW W) a K) Q:=by intro x v e o' r hn fj Q5 Z hac;obtain⟨k,dF,bR,J,Q3,M⟩:=AJ (S:=SW W) hI hn e hr (zjv w o') Q5 Z;have⟨cm,O,Q4,R⟩:=de J (N.ext M.ext) (hac k bR Q3);unfold ig;rw[fj];exact⟨cm,dF,bR,O,Q4,R,M⟩
 have kp:=hI.kp.size;have⟨dst,op,ty,pos,after,guard⟩:=o;have ins:∀t x y z,zqL T W fr hp t x y z (λdF=>mj fr dst .j λcm=>K cm dF)->∃w',(fL t (a.eval x) (a.eval y) (a.eval z)).run P w=.ok () w'/\∃cm dF bR,K cm dF/\FR cx bR cm (a.put dst undef).tmps/\(a.put dst undef).defers=a.defers/\kF cx β hp w (SW W) bR dF w':=by
  intro t x y z h;have⟨ra,J,Q3⟩:=cH N h;have⟨rb,M,O⟩:=cH N J;have⟨rc,Q4,R⟩:=cH N M;have⟨ti,h7,h8⟩:=dy.1 Q4;have Q1:=(hT t ti h7).kind;split at h8
  .rename_i s D;rw[D]at Q1;split at h8
   .rename_i k;have⟨hm,h9⟩:=aH.1 h8;have⟨hb0,h10,F⟩:=dX.1 h9;split at F
    .rename_i Φ;have⟨_,b,I,he⟩:=Q3;obtain⟨zmv,ob,hob,hΦ⟩:=hI.Ds k _ _ h10 I;have hlt:b<w.heap.size:=(ab.1 hob).1;have Q5:cN hp β k=C b:=by rw[dK h10 I];rfl
     have fin:∀(Ψ:Obj->Prop)(u v:Y),a.eval y=u->a.eval z=v->(∃o',Ψ o'/\(fL t (.map (C b)) u v).run P w=.ok () {w with heap:=w.heap.setIfInBounds b o'})->(¬iA w b)->uV hp k (.x Ψ) (λdF=>mj fr dst .j λcm=>K cm dF)->∃w',(fL t (a.eval x) (a.eval y) (a.eval z)).run P w=.ok () w'/\∃cm dF bR,K cm dF/\FR cx bR cm (a.put dst undef).tmps/\(a.put dst undef).defers=a.defers/\kF cx β hp w (SW W) bR dF w':=by
      rintro Ψ u v rfl rfl⟨o',ho',fj⟩hnr g3;have⟨hkl,g4⟩:=hX.1 g3;have B:kF cx β hp w (SW W) β (hp.set k (.x Ψ)) {w with heap:=w.heap.setIfInBounds b o'}:=by refine kF.upd (k0:=k) (h':=.x Ψ) (e':=.b b) hI (tG.1 hm) ?_ (λi hi=>⟨bW (cA hi),rfl⟩) (by simp[hkl]) I (by simp[hI.len]) Y1 (uZ.refl _) ⟨zmv,o',by simp[hlt],ho'⟩ (λb I=>.inl (by rw[Q5];exact I));exact⟨rfl,rfl,rfl,Y1,λc _ hne=>bZ (λe=>hne (by rw[Q5,e])),λc hc=>by
        by_cases e:c=b
        .subst e;cases hnr hc
        .exact hc.same (bZ (cA e))⟩
      have⟨cm,h15,h16,h17⟩:=de (v:=undef) g4 N trivial;exact⟨_,by rw[he];exact fj,cm,_,β,h15,h16,h17,B⟩
     split at F
     .split at F
      .split at F
       .have⟨es,g1,g2,g3⟩:=F;refine fin _ _ _ O.2 R.2 (znI Q1 hob (g1 _ hΦ) g2) (λ⟨_,_,_,h⟩=>?_) g3;have⟨_,_,e,_⟩:=g1 _ hΦ;rw[h,e]at hob;cases hob
       .cases F
      .cases F
     .split at F
      .split at F
       .have⟨es,g1,g2,g3⟩:=F;refine fin _ _ _ O.2 R.2 (zkX Q1 hob (g1 _ hΦ) g2) (λ⟨_,_,_,h⟩=>?_) g3;have⟨_,_,e,_⟩:=g1 _ hΦ;rw[h,e]at hob;cases hob
       .cases F
      .cases F
    .cases F
   .cases h8
  .cases h8
 cases op;case insert t x y z=>have⟨w',J,Q3⟩:=ins t x y z h;unfold ig;rw[show(aG a.eval {dst:=dst,op:=.insert t x y z,type:=ty,pos:=pos,after:=after,guard:=guard}).run P w=.ok .skip w' by simp[aG,J]];exact Q3
 case mapUpdate t x y z=>have⟨w',J,Q3⟩:=ins t x y z h;unfold ig;rw[show(aG a.eval {dst:=dst,op:=.mapUpdate t x y z,type:=ty,pos:=pos,after:=after,guard:=guard}).run P w=.ok .skip w' by simp[aG,J]];exact Q3
 case makeMap t r=>
  have⟨ti,J,Q3⟩:=dy.1 h;split at Q3
  .rename_i s D;split at Q3;.cases Q3
   .refine fresh _ (.map (C w.heap.size)) (.b w.heap.size) (.map #[] 0) _ Q3 ?_ (λb I=>?_) (λbR hx=>⟨.inl kp,_,jZ w _,by cases s<;>exact⟨#[],0,rfl,rfl⟩⟩) (λk bR D=>⟨rfl,_,D,rfl⟩);.simp[aG,Instr.makeMap,newObj];rfl
    .simp[nG,ay]at I;omega
  .cases Q3
 case convert s d x=>
  have⟨ra,J,Q3⟩:=cH N h;split at J;.exact soft J
  .have⟨si,hsi,M⟩:=dy.1 J;have⟨ti,hti,O⟩:=dy.1 M;have ks:=(hT s si hsi).kind;have kd:=(hT d ti hti).kind;split at O
   .rename_i e Ce hks;rw[hks]at ks;have⟨k1,k2,k3,k4⟩:=ks;split at O
    .rename_i hkd;rw[hkd]at kd;have kd:P.underlying d=C .string:=kd;have⟨l,Q4,R,h7⟩:=Js hI Q3 O;split at Q4
     .rename_i l;have⟨cm,g1,g2,g3⟩:=de Q4 N ⟨rfl,rfl⟩;unfold ig;have fj:(aG a.eval {dst:=dst,op:=.convert s d x,type:=ty,pos:=pos,after:=after,guard:=guard}).run P w=.ok (.value (fR l)) w:=by simp only[aG];exact pA (zkW k1 ((EK.zdM k3 (ak.1 k2).choose_spec.1).2 rfl).2 kd R)
      rw[fj];exact⟨cm,hp,β,g1,g2,g3,kF.refl hI⟩
     .cases Q4
    .cases O
   .cases O
 case alloc t=>
  have⟨ti,J,Q3⟩:=dy.1 h;have hti:=hT t ti J;have⟨z,hz,hrz⟩:=hti.PM;refine fresh _ (.pointer (C ⟨w.heap.size,0,U⟩)) (.b w.heap.size) (.cells z.cells t) _ Q3 ?_ (λb I=>?_) (λbR hx=>⟨.inl kp,z.cells,jZ w _,by rw[hz];exact hti.ziC⟩) (λk bR D=>⟨rfl,_,D,rfl⟩);.simp[aG,Instr.alloc,hrz,newVar,xV]
  .simp[nG,ay]at I;omega
 case box t x=>
  have⟨ra,J,Q3⟩:=cH N h;have⟨vs,M,O⟩:=EF J Q3;refine fresh _ (.pointer (C ⟨w.heap.size,0,U⟩)) (.b w.heap.size) (.cells (a.eval x).cells t) _ M ?_ (λb I=>?_) (λbR hx=>⟨.inl kp,_,jZ w _,O.ext hx⟩) (λk bR D=>⟨rfl,_,D,rfl⟩);.simp[aG,Instr.box,newVar,xV]
  .simp[nG,ay]at I;omega
 case makeChan t n=>
  have⟨ti,J,Q3⟩:=dy.1 h;have Q1:=(hT t ti J).kind;split at Q3
  .rename_i D;rw[D]at Q1;have⟨d,hd,M⟩:=Option.bind_eq_some_iff.1 Q1;split at M
   .rename_i dir e;have⟨inf,L,O⟩:=ak.1 M;have hby:inf.bytes<=16:=by simpa using O
    split at Q3
    .refine fresh _ (.chan (C w.heap.size)) (.b w.heap.size) (.chan 1 #[] H 0 0 H) _ Q3 ?_ (λb I=>?_) (λbR hx=>⟨.inl kp,_,jZ w _,0,0,rfl⟩) (λk bR D=>⟨rfl,_,D,rfl⟩)
     .have Q4:¬((inf.bytes:Int)>281474976710544):=Y0;have R:aD.max=9223372036854775807:=rfl;simp[aG,Instr.makeChan,a8,asInt,asIntOf,aT hd,typeInfo,L,newObj,R,Q4];rfl
     .simp[nG,ay]at I;omega
    .cases Q3
   .cases M
  .cases Q3
 case buildSlice t n parts=>
  have⟨ti,J,Q3⟩:=dy.1 h;have Q1:=(hT t ti J).kind;split at Q3
  .rename_i e Ce ek D;rw[D]at Q1;have⟨k1,k2,k3,k4⟩:=Q1;have⟨inf,L,e1⟩:=ak.1 k2;simp[aX]at e1;have hs:(P.info? e).map (·.size)=C Ce:=by rw[L,cG,e1.2]
   have⟨zyn,M⟩:=aH.1 Q3;have hle:n*Ce<=16777216:=by simpa using zyn
   have⟨cs,O,us,Q4,R,h7⟩:=Qw N 0 n _ _ M;have⟨l,h8,h9,h10⟩:=zgO O Q4;have YF:0<Ce:=by rw[k4];cases ek<;>simp[EK.sz]
   have zqF:l.sz=Ce:=by rw[h10,k4]
   have hlen:l.len=n:=by have:=l.Gd;rw[h9,R,zqF]at this;exact(Nat.eq_of_mul_eq_mul_right YF this).symm
   have hz:∀w,(zeroValue e).run P w=.ok ek.zero w:=λw=>by simp[zeroValue,typeInfo,L,e1.1]
   have mk:∀zc:Array Y,∃A:Array Y,Instr.fill (λi=>C (i*Ce,Ce)) ((gw (n*Ce)).map (zc[.%zc.size]!)) (parts.toList.map λx=>(x.1,a.eval x.2))=C A/\A.toList=us:=by intro zc;have⟨A,c1,c2⟩:=h7 n ((gw (n*Ce)).map (zc[.%zc.size]!)) Y0 Y1;exact⟨A,c1,by rw[c2];simp⟩
   have fj:∃A:Array Y,A.toList=us/\(mE t n (parts.map λx=>(x.1,a.eval x.2))).run P w=.ok (.slice (C ⟨w.heap.size,0,U⟩) n n) (w.alloc (.cells A e)):=by
    by_cases h0:n*Ce=0
    .have⟨A,c1,c2⟩:=mk #[];refine⟨A,c2,?_⟩;unfold mE;rw[Sem.run_bind,aT k1,aL];rw[Sem.run_bind,lp hs,aL,if_neg Y0];simp[h0,if_true,Sem.run_bind,Sem.run_pure,aL,mD]at c1⊢;rw[c1];simp[xV]
    .have⟨A,c1,c2⟩:=mk ek.zero.cells;refine⟨A,c2,?_⟩;unfold mE;rw[Sem.run_bind,aT k1,aL];dsimp only;rw[Sem.run_bind,lp hs,aL,if_neg Y0];simp[h0,if_false,Sem.run_bind,Sem.run_pure,aL,mD,hz]at c1⊢;rw[c1];simp[xV]
   have⟨A,c1,c2⟩:=fj;refine fresh _ (.slice (C ⟨w.heap.size,0,U⟩) n n) (.r (.slice (C ⟨w.heap.size,0,U⟩) n n) 0) (.cells A e) _ h8 ?_ (λb I=>?_) (λbR hx=>⟨rfl,?_,?_⟩) (λk bR D=>⟨rfl,_,_,D,ao _,λ_=>rfl⟩);.simp only[aG];exact ziB c2
   .simp[nG,l9,ay]at I;omega
   .refine⟨l.Gd,.inr ⟨w.heap.size,n,A,by rw[hlen],kp,jZ w _,Y0,?_,?_,?_⟩⟩
    .have:n<=n*Ce:=oo n YF;unfold tg;omega
    .rw[<-cv,c1,R,zqF]
    .rw[c1,h9,hlen,zqF,<-R,xz]
   .have:n<=n*Ce:=oo n YF;rw[hlen];unfold lH;omega
  .cases Q3
 case makeSlice t n c=>
  have⟨ti,J,Q3⟩:=dy.1 h;have Q1:=(hT t ti J).kind;split at Q3
  .rename_i e Ce ek D;rw[D]at Q1;have⟨k1,k2,k3,k4⟩:=Q1;have⟨inf,L,e1⟩:=ak.1 k2;simp[aX]at e1;split at Q3
   .have⟨ra,M,O⟩:=cH N Q3;split at M
    .rename_i m;have⟨⟨m0,m1⟩,Q4⟩:=aH.1 M;have⟨_,hc⟩:=O;obtain⟨q,rfl⟩:=ee m0;have hby:inf.bytes<=32:=(EK.zdM k3 L).1;have⟨w',r1,r2,r3⟩:=run_make_own w cx.w0.heap.size t e inf _ Ce k1 L e1.1 e1.2 .i64 .i64 q (by have:inf.bytes*q<=32*q:=bk _ hby;omega) (by unfold tg;omega) kp;have I:cj w.heap.size w w':=⟨r3.os,r3.tape,r3.output,r3.size,λk D=>r3.block k D Y1⟩;obtain⟨k,dF,bR,g1,g2,g3⟩:=AJ hI Q4 (.r (.slice (C ⟨w.heap.size,0,U⟩) 0 q) 0) hr I (λb I=>by simp[nG,l9,ay]at I;omega) (λbR hx=>⟨rfl,by rw[k4]at r2;cases ek<;>exact r2,by cases ek<;>exact a7 _⟩);have⟨cm,g4,g5,g6⟩:=de g1 (N.ext g3.ext) ⟨rfl,_,_,g2,ao _,λ_=>rfl⟩;unfold ig;have fj:(aG a.eval {dst:=dst,op:=.makeSlice t (.const (.int .i64 0)) c,type:=ty,pos:=pos,after:=after,guard:=guard}).run P w=.ok (.value (.slice (C ⟨w.heap.size,0,U⟩) 0 q)) w':=by simp only[aG,hc];exact ziB r1
     rw[fj];exact⟨cm,dF,bR,g4,g5,g6,g3⟩
    .cases M
   .rename_i y;have⟨ra,M,O⟩:=cH N Q3;split at M
    .rename_i m;have⟨rb,R,h7⟩:=cH N M;split at R
     .rename_i m2;have⟨⟨m0,m1⟩,h8⟩:=aH.1 R;have⟨hmm,Q4⟩:=aH.1 h8;subst hmm;have⟨_,hc0⟩:=O;have⟨_,hc⟩:=h7;obtain⟨q,rfl⟩:=ee m0;have hby:inf.bytes<=32:=(EK.zdM k3 L).1;have⟨w',r1,r2,r3⟩:=run_make_full (P:=P) (w:=w) cx.w0.heap.size t e inf _ Ce k1 L e1.1 e1.2 .i64 .i64 q (by have:inf.bytes*q<=32*q:=bk _ hby;omega) (by unfold tg;omega) kp;have I:cj w.heap.size w w':=⟨r3.os,r3.tape,r3.output,r3.size,λk D=>r3.block k D Y1⟩;obtain⟨k,dF,bR,g1,g2,g3⟩:=AJ (S:=SW W) hI Q4 (.r (.slice (C ⟨w.heap.size,0,U⟩) q q) 0) hr I (λb I=>by simp[nG,l9,ay]at I;omega) (λbR hx=>by have⟨z1,z2,z3⟩:=zkR ek q;refine⟨rfl,?_,by rw[jr,z2];unfold lH;omega⟩;rw[jr,z1,z2,z3,<-k4];exact r2);have⟨cm,g4,g5,g6⟩:=de (v:=.slice (C ⟨w.heap.size,0,U⟩) q q) g1 (N.ext g3.ext) ⟨rfl,_,_,g2,ao _,λ_=>rfl⟩;unfold ig;have fj:(aG a.eval {dst:=dst,op:=.makeSlice t (.tmp y) c,type:=ty,pos:=pos,after:=after,guard:=guard}).run P w=.ok (.value (.slice (C ⟨w.heap.size,0,U⟩) q q)) w':=by simp only[aG,hc,hc0];exact ziB r1
      rw[fj];exact⟨cm,dF,bR,g4,g5,g6,g3⟩
     .cases R
    .cases M
   .cases Q3
  .cases Q3
 case store t x y=>
  have⟨ra,J,Q3⟩:=cH N h;have⟨rb,M,O⟩:=cH N J;have⟨vs,Q4,R⟩:=EF M O;have⟨ti,h7,h8⟩:=dy.1 Q4;have⟨hlen,h9⟩:=AH.1 h8;have hti:=hT t ti h7;split at h9
  .rename_i k off;have⟨hm,h10⟩:=aH.1 h9;have⟨hb0,F,h12⟩:=dX.1 h10;split at h12
   .rename_i cs T';have⟨hle,h13⟩:=Jv.1 h12;have⟨hkl,h14⟩:=hX.1 h13;have⟨_,n,hn,he⟩:=Q3;have⟨zmv,us,I,hc⟩:=(hI.Ds k _ _ F hn);have YF:(a.eval y).cells.size=ti.sz:=by rw[<-hlen,R.length];simp
    have hcl:cs.length=us.size:=by rw[hc.length];simp
    have fj:=run_storeCells_at (P:=P) n off T' (a.eval y).cells.toList 0 us w I (by rw[dA,cv,YF,<-hlen,<-hcl];exact hle) (λv hv=>R.one v hv);simp only[dA,cv]at fj;generalize zhG:(us.toList.take off++(a.eval y).cells.toList++us.toList.drop (off+(a.eval y).cells.size)).toArray=new at fj;have zuK:gi cx β (cs.take off++vs++cs.drop (off+vs.length)) new.toList:=by rw[<-zhG];simp only[List.append_assoc];rw[YF,<-hlen];exact gi.append (hc.take off) (gi.append R (hc.drop _))
    have Q5:cN hp β k=C n:=by rw[dK F hn];rfl
    have B:kF cx β hp w (SW W) β (hp.set k (.b (cs.take off++vs++cs.drop (off+vs.length)) T')) (w.setRow n new):=by refine kF.upd (k0:=k) (h':=.b (cs.take off++vs++cs.drop (off+vs.length)) T') (e':=.b n) hI (tG.1 hm) ?_ (λi hi=>⟨bW (cA hi),rfl⟩) (by simp[hkl]) hn (by simp[hI.len]) Y1 (uZ.refl _) ⟨zmv,new,Be w n us new T' _ I,zuK⟩ (λb I=>.inl (by rw[Q5];exact I));exact⟨rfl,rfl,rfl,Y1,λb _ hne=>yM w n b new (λe=>hne (by rw[Q5,e])),λc hc=>by
      by_cases e:c=n;.subst e;exact⟨_,_,_,Be w _ us new T' _ I⟩
      .exact hc.same (yM w n c new e)⟩
    have⟨cm,h15,h16,h17⟩:=de (v:=undef) h14 N trivial;unfold ig;have hst:(aG a.eval {dst:=dst,op:=.store t x y,type:=ty,pos:=pos,after:=after,guard:=guard}).run P w=.ok .skip (w.setRow n new):=by simp[aG,he,jG,cC];simp[storeVar,lp hti.size,YF,fj]
    rw[hst];exact⟨cm,_,β,h15,h16,h17,B⟩
   .cases h12
  .rename_i k X sz i off;have⟨hm,h10⟩:=aH.1 h9;have⟨Q0,l,F,h12⟩:=dM h10;have⟨hbz,zyj⟩:=aH.1 h12;have zyF:=aE hbz;have⟨hlt,zyk⟩:=aH.1 zyj;have⟨l',h13,hll,hls,hle,hen⟩:=zcZ R hlt zyk;have⟨hkl,h14⟩:=hX.1 h13;have⟨v1,r2,r3,r4⟩:=iT hI F;have⟨g1,n1,c1,hv,he⟩:=zib (cx:=cx) Q3 r2;subst hv;have hn:n1=l.len:=jo (nI r3 (EL.tl _));subst hn;have YF:(a.eval y).cells.size=ti.sz:=by rw[<-hlen,R.length];simp
   have zyo:i*l.sz+off+(a.eval y).cells.toList.length<=l.len*l.sz:=by have J:(i+1)*l.sz<=l.len*l.sz:=bk _ hlt;have Q3:=R.length;rw[fK]at J;omega
   have⟨cur,I,hcs,zuL⟩:=zcN r3 zyo;have fj:=run_storeCells_at (P:=P) g1 (i*l.sz+off) Q0 (a.eval y).cells.toList 0 cur w I (by rw[dA];exact hcs) (λv hv=>R.one v hv);simp only[dA,cv]at fj;generalize zhG:(cur.toList.take (i*l.sz+off)++(a.eval y).cells.toList++cur.toList.drop (i*l.sz+off+(a.eval y).cells.size)).toArray=new at fj;have Q5:cN hp β k=C g1:=by rw[dK F r2];rfl
   have B:kF cx β hp w (SW W) β (hp.set k (.r X Q0 l')) (w.setRow g1 new):=by
    refine kF.upd (k0:=k) (h':=.r X Q0 l') (e':=.r (.slice (C ⟨g1,0,U⟩) l.len c1) X) hI (tG.1 hm) ?_ (λi hi=>⟨bW (cA hi),rfl⟩) (by simp[hkl]) r2 (by simp[hI.len]) Y1 (uZ.refl _) ⟨rfl,?_,by rw[hll];exact r4⟩ (λb I=>.inl (by rw[Q5];exact I));.exact⟨rfl,rfl,rfl,Y1,λb _ hne=>yM w g1 b new (λe=>hne (by rw[Q5,e])),λc hc=>by
      by_cases e:c=g1;.subst e;exact⟨_,_,_,Be w _ cur new Q0 _ I⟩
      .exact hc.same (yM w g1 c new e)⟩
    .rw[hll,hls,hen];apply zuL _;rw[Be w g1 cur new Q0 _ I,<-zhG,cv]
   have⟨cm,h15,h16,h17⟩:=de (v:=undef) h14 N trivial;unfold ig;have hst:(aG a.eval {dst:=dst,op:=.store t x y,type:=ty,pos:=pos,after:=after,guard:=guard}).run P w=.ok .skip (w.setRow g1 new):=by simp[aG,he,jG,cC];subst zyF;simp[storeVar,lp hti.size,YF,fj]
   rw[hst];exact⟨cm,_,β,h15,h16,h17,B⟩
  .cases h9
 case call c=>
  have⟨callee,args,SJ⟩:=c;cases callee;case value f=>
   cases f;case const=>exact soft h
   case global=>exact soft h
   case tmp d=>
    have⟨x0,g1,g2⟩:=oS.1 h;split at g2
    .rename_i f us0 vs0;have⟨hu0,g3⟩:=aH.1 g2;have⟨hv0,g4⟩:=aH.1 g3;have⟨c',hc,J⟩:=GF g4;have⟨rs,Q3,M⟩:=oQ N J;have⟨wR,O⟩:=aH.1 Q3;have Z:=hG.1 f c' hc;have Q2:=Z.snd rs hp _ O cx β w (args.map a.eval) hI (hG.gl hc) (by simpa using M);have hval:a.eval (.tmp d)=.func (.func f) #[] #[]:=by have⟨_,e⟩:=N.2 d _ g1;rw[hu0,hv0]at e;exact e
     unfold ig;have fj:(aG a.eval {dst:=dst,op:=.call {callee:=.value (.tmp d),args:=args,argTypes:=SJ},type:=ty,pos:=pos,after:=after,guard:=guard}).run P w=.ok (.enter f (args.map a.eval)) w:=by simp[aG,resolve,hval,ey,invoke,oX Z.fn]
     rw[fj];apply b9 Q2;rintro e w'⟨v,r,dF,bR,rfl,D,hr',B⟩;have⟨cm,g1,g2,g3⟩:=de D (N.ext B.ext) hr';exact⟨cm,dF,bR,g1,g2,g3,B.mono λk D=>oc wR k D⟩
    .cases g2
   case func f=>
   have⟨c',hc,J⟩:=GF h;have⟨rs,Q3,M⟩:=oQ N J;have⟨wR,O⟩:=aH.1 Q3;have Z:=hG.1 f c' hc;have Q2:=Z.snd rs hp _ O cx β w (args.map a.eval) hI (hG.gl hc) (by simpa using M);unfold ig;have fj:(aG a.eval {dst:=dst,op:=.call {callee:=.value (.func f),args:=args,argTypes:=SJ},type:=ty,pos:=pos,after:=after,guard:=guard}).run P w=.ok (.enter f (args.map a.eval)) w:=by simp[aG,resolve,a8,ey,invoke,oX Z.fn]
   rw[fj];apply b9 Q2;rintro e w'⟨v,r,dF,bR,rfl,D,hr',B⟩;have⟨cm,g1,g2,g3⟩:=de D (N.ext B.ext) hr';exact⟨cm,dF,bR,g1,g2,g3,B.mono λk D=>oc wR k D⟩
  case invoke rv name=>
   have⟨ra,J,hra⟩:=cH N h;split at J
   .rename_i t k;have⟨ti,ht,Q3⟩:=dy.1 J;have hti:=hT t ti ht;have⟨f,p,hm,M⟩:=VE Q3;have⟨c',hc,O⟩:=GF M;have⟨rs,Q4,R⟩:=oQ N O;have Z:=hG.1 f c' hc;have⟨_,n,hn,he⟩:=hra;have he:=he;have zoI:=hti.zyK (name,f,p) hm n w;cases p;case true=>
     have⟨wR,h7⟩:=aH.1 Q4;have Q2:=Z.snd (.l (.p k 0)::rs) hp _ h7 cx β w (#[.pointer (C ⟨n,0,U⟩)]++args.map a.eval) hI (hG.gl hc) (by simpa using⟨⟨rfl,n,hn,rfl⟩,R⟩);unfold ig;have fj:(aG a.eval {dst:=dst,op:=.call {callee:=.invoke rv name,args:=args,argTypes:=SJ},type:=ty,pos:=pos,after:=after,guard:=guard}).run P w=.ok (.enter f (#[.pointer (C ⟨n,0,U⟩)]++args.map a.eval)) w:=by exact QB he (zoI.1 rfl) (oX Z.fn _ _)
     rw[fj];apply b9 Q2;rintro e w'⟨v,r,dF,bR,rfl,D,hr',B⟩;have⟨cm,g1,g2,g3⟩:=de D (N.ext B.ext) hr';exact⟨cm,dF,bR,g1,g2,g3,B.mono λk D=>oc wR k D⟩
    case false=>
     dsimp only at Q4;split at Q4
     .rename_i e D;have⟨ei,hei,h7⟩:=dy.1 Q4;have⟨_,h8⟩:=aH.1 h7;have⟨I,h9,h10⟩:=dX.1 h8;split at h10
      .rename_i cs T1;have⟨x,v,F,h12,h13⟩:=zkr (hT e ei hei) hI h9 hn h10;have⟨wR,h14⟩:=aH.1 F;have Q2:=Z.snd (x::rs) hp _ h14 cx β w (#[v]++args.map a.eval) hI (hG.gl hc) (by simpa using⟨h12,R⟩);unfold ig;have fj:(aG a.eval {dst:=dst,op:=.call {callee:=.invoke rv name,args:=args,argTypes:=SJ},type:=ty,pos:=pos,after:=after,guard:=guard}).run P w=.ok (.enter f (#[v]++args.map a.eval)) w:=by exact QB he ((zoI.2 rfl e D).trans (by simp[h13])) (oX Z.fn _ _)
       rw[fj];apply b9 Q2;rintro e w'⟨v,r,dF,bR,rfl,D,hr',B⟩;have⟨cm,g1,g2,g3⟩:=de D (N.ext B.ext) hr';exact⟨cm,dF,bR,g1,g2,g3,B.mono λk D=>oc wR k D⟩
      .cases h10
     .cases Q4
   .cases J
  case builtin bb=>
   cases bb<;>first|exact soft h|skip
   change(match args.toList with|[x,y]=>_|_=>False)at h;split at h
   .rename_i x y hargs;split at h
    .rename_i t t2 hat;have⟨ti,J,Q3⟩:=dy.1 h;have Q1:=(hT t ti J).kind;split at Q3
     .rename_i e Ce ek D;rw[D]at Q1;have⟨k1,k2,k3,k4⟩:=Q1;have⟨inf,L,e1⟩:=ak.1 k2;simp[aX]at e1;have⟨ra,M,O⟩:=cH N Q3;have⟨rb,Q4,R⟩:=cH N M;have ho:=bj.1 hargs;have zqC:=bj.1 hat;subst ho zqC;have hb1:=EK.zdM k3 L;have hby:=hb1.1;have zuI:(P.info? e).map (λi=>(i.zero,i.size,i.bytes))=C (C ek.zero,Ce,inf.bytes):=by rw[L,cG,e1.1,e1.2]
      have hzs:ek.zero.cells.size=Ce:=by rw[k4];cases ek<;>rfl
      have zqI:0<Ce:=by rw[k4];cases ek<;>simp[EK.sz]
      have⟨m,h7',h8,h9⟩:=zjq hT hI R Q4 k1 zuI hzs zqI hb1 ty;have⟨hmz,h7⟩:=aH.1 h7';have hms:=aE hmz;clear h Q3 M Q4 h7';have fin:∀(v1:Y)(n:Nat)(xs:List Y)(base:Nat),a.eval x=v1->w.ownsRow base e Ce v1 n xs->n+m.len<=1099511627776->base<=w.heap.size->∃v' w',(aG a.eval {dst:=dst,op:=.call {callee:=.builtin .append,args:=#[x,y],argTypes:=#[t,t2]},type:=ty,pos:=pos,after:=after,guard:=guard}).run P w=.ok (.value v') w'/\w'.ownsRow base e Ce v' (n+m.len) (xs++m.di)/\w.grownBy w' v1.ownBlock/\(v'.ownBlock=v1.ownBlock\/v'.ownBlock=C w.heap.size)/\∀g,iA w g->iA w' g:=by intro v1 n xs base hv r3 hle zuG;have⟨v',w',q0,q⟩:=h8 hms v1 n xs base r3 hle zuG;refine⟨v',w',?_,q⟩;simp[aG,resolve,invoke,builtin,Sem.run_bind,Sem.run_pure,aL,List.map_toArray,cQ,List.map_nil,hv,q0]
      split at h7
      .rename_i k X;have⟨hm,g1⟩:=aH.1 h7;have⟨Q0,l,g2,g3⟩:=dM g1;have⟨hE,g4⟩:=aH.1 g3;have⟨hle,g5⟩:=aH.1 g4;have hEe:=aE hE;subst hEe;have⟨l',g6,g7,g8,g9,g10⟩:=zjr g5;have⟨hkl,g11⟩:=hX.1 g6;have⟨v1,r2,r3,r4⟩:=iT hI g2;have hv:=F3 (cx:=cx) O r2;have hlz:l.sz=Ce:=by rw[<-g10,hms]
       rw[hlz]at r3;have⟨v',w',q0,q1,q2,q3,q4⟩:=fin v1 l.len l.di _ hv r3 hle kp
       .unfold ig;rw[q0];have hkb:k<β.length:=by rw[hI.len];exact hkl
        have Q5:cN hp β k=v1.ownBlock:=by rw[dK g2 r2];rfl
        have hx:uZ β (β.set k (.r v' (X+1))):=by
         intro i e0 hie;by_cases hik:i=k
         .subst hik;rw[r2]at hie;obtain rfl:=fO hie;exact⟨v',X+1,by simp[hkb],Y0,λe=>Y0⟩
         .have zoK:(β.set k (.r v' (X+1)))[i]?=C e0:=by rw[bW (cA hik)];exact hie
          cases e0 with|b n=>exact zoK|r v X=>exact⟨v,X,zoK,ao _,λ_=>rfl⟩|x=>trivial
        have B:kF cx β hp w (SW W) (β.set k (.r v' (X+1))) (hp.set k (.r (X+1) Q0 l')) w':=by
         refine kF.upd (k0:=k) (h':=.r (X+1) Q0 l') (e':=.r v' (X+1)) hI (tG.1 hm) ?_ (λi hi=>⟨bW (cA hi),bW (cA hi)⟩) (by simp[hkl]) (by simp[hkb]) (by simp[hI.len]) Y1 hx ⟨rfl,by rw[g8,g7,g9,hlz];exact q1,by rw[g8];exact hle⟩ (λb I=>?_);.rw[Q5];exact(uO.zkz q2 q4)
         .rw[Q5];rcases q3 with q3|q3;.exact .inl (q3▸I)
          .have:C w.heap.size=C b:=q3▸I;simp[ay]at this;omega
        have zfw:v'.oneCell'=E:=by obtain⟨_,_,rfl⟩:=sS q1;rfl
        have⟨cm,g12,g13,g14⟩:=de (v:=v') g11 (N.ext hx) ⟨zfw,v',X+1,by simp[hkb],ao _,λ_=>rfl⟩;exact⟨cm,_,_,g12,g13,g14,B⟩
      .have⟨_,hv⟩:=O;have⟨v',w',q0,q1,q2,_⟩:=fin _ 0 [] w.heap.size hv (World.ownsRow_nil _ _ _ _) (by rw[ew];exact h9) (ao _);rw[ew,gX]at q1;have q2:cj w.heap.size w w':=⟨q2.os,q2.tape,q2.output,q2.size,λk D=>q2.block k D (by simp[l9])⟩
       .unfold ig;rw[q0];obtain⟨k,dF,bR,p1,p2,p3⟩:=AJ (S:=SW W) (rsv:=U) hI h7 (.r v' 0) (λk D=>hr k (D.elim Y9 .inr)) q2 (λb I=>(q1.lt b I).1) (λbR hx=>⟨rfl,by rw[<-hms];exact CE q1 kp,h9⟩);have zfw:v'.oneCell'=E:=by obtain⟨_,_,rfl⟩:=sS q1;rfl
        have⟨cm,p4,p5,p6⟩:=de (v:=v') p1 (N.ext p3.ext) ⟨zfw,v',0,p2,ao _,λ_=>rfl⟩;exact⟨cm,dF,bR,p4,p5,p6,p3⟩
      .cases h7
     .cases Q3
    .cases h
   .cases h
 all_goals exact soft h
end
end Ab
open Go.RowKit
namespace Ab
structure Lk(β0:List En)(hp0:Hp)(w0:V)(β:List En)(hp:Hp)(w:V):Prop where
 ext:∀k e,k<hp0.length->β0[k]?=C e->match e with|.b n=>β[k]?=C (.b n)|.r v ver=>∃v' zfC,β[k]?=C (.r v' zfC)/\ver<=zfC/\(ver=zfC->v'=v)|.x=>True
 om:∀k b,cN hp β k=C b->(k<hp0.length/\cN hp0 β0 k=C b)\/w0.heap.size<=b
 size:w0.heap.size<=w.heap.size
 len:hp0.length<=hp.length
 sb:∀b,b<w0.heap.size->(∀k,cN hp0 β0 k≠C b)->w.heap[b]?=w0.heap[b]?
section
variable{P:al}{cx:Cx}{β:List En}{hp:Hp}{w:V}{β0:List En}{hp0:Hp}{w0:V}
def Lk.out{S:Nat->Prop}{bR:List En}{u:Hp}{w':V}(h:Lk β0 hp0 w0 β hp w)(t:kF cx β hp w S bR u w'):Lk β0 hp0 w0 bR u w':=by
 refine⟨λk e g i=>?_,λk b d=>?_,bw h.size t.size,bw h.len t.len,λb d y=>?_⟩;rotate_left 2
 .refine(t.sb b (aO d h.size) λk _ e=>?_).trans (h.sb b d y);rcases h.om k b e with a|a;.simp_all
  .omega
 .have a:=h.ext k e g i;cases e with|b n=>exact t.ext k _ a|r v j=>have⟨z,f,l,m,o⟩:=a;have⟨A,c,p,q,s⟩:=t.ext k _ l;grind|x=>trivial
 .rcases t.om k b d with a|a;.exact h.om k b a
  .exact .inr (bw h.size a)
def sY{m:Array bU}{n:Fr}{a:Act}{o:bU}{p q:Prop}(f:FR cx β n a.tmps)(h:U9 m.toList n o p q):(ar o (yielded m a.tmps)=E/\p)\/(ar o (yielded m a.tmps)=H/\q):=by unfold U9 at h;unfold ar;cases j:o.guard with |none=>simp[j]at h;simp_all|some x=>
 have⟨i,b⟩:=x;simp[j]at h;have⟨oi,k,g⟩:=AF.1 h;split at g
 .rename_i d hd;have⟨x,e,c⟩:=oS.1 g;split at c
  .rename_i t;have l:d<a.tmps.size:=by rw[<-f.1];grind
   have v:a.tmps[d]?=C (.bool t):=by have:=(f.2 d _ e).2;simp[Array.getD,l,dif_pos]at this;rw[Array.getElem?_eq_getElem l];simp_all
   have y:yielded m a.tmps i=C t:=by unfold yielded;have:m[i]?=C oi:=Y7;simp[this,hd,v]
   simp only[y];cases b with
   |true=>rw[zbR]at c;cases t with|true=>simp_all|false=>simp_all
   |false=>dsimp only at c;rw[zbR]at c;cases t with|true=>simp_all|false=>simp_all
  .have l:d<a.tmps.size:=by rw[<-f.1];grind
   split at c
   .have⟨r,v,_⟩:=f.2 d _ e;have v:a.tmps[d]?=C (.tuple r):=by simp_all
    have y:yielded m a.tmps i=U:=by unfold yielded;have:m[i]?=C oi:=Y7;simp[this,hd,v]
    simp_all
   .cases c
  .cases c
 .cases g
def At(cx:Cx)(β0:List En)(hp0:Hp)(w0:V)(d:List dI)(f:Fr)(hp:Hp)(a:Act)(w:V):Prop:=∃β,ki cx β hp w/\FR cx β f a.tmps/\a.defers=d/\Lk β0 hp0 w0 β hp w
variable{G:bK}{Q:mN->Act->V->Prop}
def zaf{T:lJ}(x:eV P T)(y:Ad P G cx){n:Array bU}{u:List dI}{K:Fr->Hp->Prop}(z:∀p hp a w,K p hp->At cx β0 hp0 w0 u p hp a w->Q .normal a w):∀(r:List bU)(i:Nat)(p:Fr)(hp:Hp)(a:Act)(w:V),n.toList.drop i=r->At cx β0 hp0 w0 u p hp a w->Wu T G n.toList r p hp K->wpOps P n Q (List.range' i r.length) a w:=by intro r;induction r with|nil=>intro i p hp a w _ A h;exact z p hp a w h A|cons o r m=>
 intro i p hp a w v A h;have B:n[i]?=C o:=by have:=congrArg (λl=>l[0]?) v;simpa using this
 have c:n.toList.drop (i+1)=r:=by have:=congrArg List.tail v;simpa using this
 rw[aW,List.range'_succ,wpOps_cons];obtain⟨β,I,g,e,L⟩:=A;unfold wpOp;simp[B];rcases sY g h with⟨s,j⟩|⟨s,j⟩
 .rw[if_pos s];refine .inl (Oper.wp_mono ?_ (Pl (W:=U) x y I g (λ_ _=>trivial) j));rintro D F⟨q,t,bR,k,f,d,b⟩;exact m (i+1) q t D F c ⟨bR,b.mI,f,d.trans e,L.out b⟩ k
 .rw[if_neg (by simp[s])];have⟨q,k,f,d⟩:=de j g ⟨#[],rfl,aA⟩;exact m (i+1) q hp _ w c ⟨β,I,f,d.trans e,L⟩ k
structure RI(n:Nat)(Wl:List Nat)(N0:Nat)(lL:List En)(hp1:Hp)(β:List En)(hp:Hp)(w:V):Prop where
 r1:∀k b,cN hp β k=C b->cN hp1 lL k=C b\/N0<=b
 r2:∀k,k<n->k∉Wl->cN hp β k=cN hp1 lL k
 size:N0<=w.heap.size
 len:n<=hp.length
def pOf(N:Nat)(W:List Nat)(lL:List En)(p:Hp)(b:Nat):Prop:=b<N/\∀k∈W,cN p lL k≠C b
structure zhx(T:lJ)(G:bK)(cx:Cx)(β0:List En)(hp0:Hp)(w0:V)(d0:List dI)(ops:Array bU)(Q2:Nat->(Act->V->Prop)->Act->V->Prop):Prop where
 mono:∀{i:Nat}{K K':Act->V->Prop}{a:Act}{w:V},(∀a w,K a w->K' a w)->Q2 i K a w->Q2 i K' a w
 skip:∀{i:Nat}{o:bU}{K:Act->V->Prop}{a:Act}{w:V},ops[i]?=C o->ar o (yielded ops a.tmps)=H->K (a.put o.dst undef) w->Q2 i K a w
 Mx:∀{i:Nat}{o:bU}{a:Act}{w:V}{β:List En}{fr:Fr}{hp:Hp}{W:Option (Nat×List Nat)}{rsv:Option Nat}{K:Fr->Hp->Prop},ops[i]?=C o->ar o (yielded ops a.tmps)=E->ki cx β hp w->FR cx β fr a.tmps->a.defers=d0->Lk β0 hp0 w0 β hp w->(∀k,(rsv=C k\/hp.length<=k)->SW W k)->zbC T G W rsv fr hp o K->Q2 i (λa' w'=>∃cm dF bR,K cm dF/\FR cx bR cm a'.tmps/\a'.defers=a.defers/\kF cx β hp w (SW W) bR dF w') a w
def zfZ{T:lJ}(d:eV P T)(e:Ad P G cx){b:Array bU}{g:List dI}:zhx T G cx β0 hp0 w0 g b (wpOp P b Q):=by
 refine⟨λh k=>wpOp_mono h k,λ{i o K a w}c hw h=>?_,λ{i o a w β l hp W r K}c hw I f _ _ j h=>?_⟩;.unfold wpOp;simp[c];rw[if_neg (by simp[hw])];exact h
 .unfold wpOp;simp only[c];rw[if_pos hw];exact .inl (Pl d e I f j h)
def zgQ{T:lJ}(hT:eV P T){ops:Array bU}{Q2:Nat->(Act->V->Prop)->Act->V->Prop}{d0:List dI}(A:zhx T G cx β0 hp0 w0 d0 ops Q2){n:Nat}{y:List Nat}{lL:List En}{p:Hp}{w1:V}(I:ki cx lL p w1)(S:∀k,n<=k->cN p lL k=U):∀(t:Tr)(K:Fr->Hp->Prop)(fr:Fr)(hp:Hp)(β:List En)(a:Act)(w:V),(∀fr hp a w,K fr hp->At cx β0 hp0 w0 d0 fr hp a w->Q .normal a w)->ki cx β hp w->FR cx β fr a.tmps->a.defers=d0->Lk β0 hp0 w0 β hp w->RI n y w1.heap.size lL p β hp w->wY T G ops.toList (n,y) n t fr hp K->MH P Q2 ops (pOf w1.heap.size y lL p) Q t a w:=by
 have late:∀(t:Tr)(K:Fr->Hp->Prop)(fr:Fr)(hp:Hp)(a:Act)(w:V),(∀fr hp a w,K fr hp->At cx β0 hp0 w0 d0 fr hp a w->Q .normal a w)->At cx β0 hp0 w0 d0 fr hp a w->OW T G ops.toList (n,y) n t fr hp K->MH P Q2 ops (pOf w1.heap.size y lL p) Q t a w:=by intro t;induction t with
  |nil=>intro K fr hp a w hQ hA h;exact hQ fr hp a w (zeq.1 h) hA|op i k t B=>intro K fr hp a w hQ hA h;match k,h with
   |0,h=>cases h|1,h=>cases h|k+2,h=>
    obtain⟨β,hI,x,c,L⟩:=hA;have⟨o,z,q⟩:=AF.1 h;have ho:ops[i]?=C o:=Y7;rcases sY x q with⟨hw,s⟩|⟨hw,s⟩;.refine A.mono ?_ (A.Mx (W:=U) ho hw hI x c L (λ_ _=>trivial) (lY.1 s));rintro a' w'⟨cm,dF,bR,f,g,d,m⟩;exact B K cm dF a' w' hQ ⟨bR,m.mI,g,d.trans c,L.out m⟩ f
    .have⟨cm,f,g,d⟩:=de s x ⟨#[],rfl,aA⟩;exact A.skip ho hw (B K cm hp _ w hQ ⟨β,hI,g,d.trans c,L⟩ f)
  |iY=>intro K fr hp a w hQ hA h;cases h
 have zhF:∀{β bR:List En}{hp dF:Hp}{w w':V},RI n y w1.heap.size lL p β hp w->kF cx β hp w (SW (C (n,y))) bR dF w'->Ex (pOf w1.heap.size y lL p) w w'/\RI n y w1.heap.size lL p bR dF w':=by
  intro β bR hp dF w w' R ho;refine⟨⟨ho.size,λb hp J=>ho.sb b J λk f e=>?_⟩,λk b J=>?_,λk f hn=>?_,bw R.size ho.size,bw R.len ho.len⟩
  .rcases R.r1 k b e with q|q
   .rcases f with f|f;.exact hp.2 k f q
    .simp_all
   .exact absurd hp.1 Y0
  .rcases ho.om k b J with q|q;.exact R.r1 k b q
   .exact .inr (bw R.size q)
  .rw[ho.own k (aO f R.len) (λe=>e.elim hn Y0)];exact R.r2 k f hn
 have hr:∀{hp:Hp}{j:Nat},n<=hp.length->∀k,(C (n+j)=C k\/hp.length<=k)->SW (C (n,y)) k:=by
  intro hp j hl k f;refine .inr ?_;rcases f with f|f;.grind
  .omega
 have step1:∀(i:Nat)(t:Tr)(K:Fr->Hp->Prop)(fr:Fr)(hp:Hp)(β:List En)(a:Act)(w:V),(∀(fr:Fr)(hp:Hp)(β:List En)(a:Act)(w:V),ki cx β hp w->FR cx β fr a.tmps->a.defers=d0->Lk β0 hp0 w0 β hp w->RI n y w1.heap.size lL p β hp w->wY T G ops.toList (n,y) n t fr hp K->MH P Q2 ops (pOf w1.heap.size y lL p) Q t a w)->ki cx β hp w->FR cx β fr a.tmps->a.defers=d0->Lk β0 hp0 w0 β hp w->RI n y w1.heap.size lL p β hp w->(stepT T G ops.toList (n,y) n i 1 fr hp λcm dF=>wY T G ops.toList (n,y) n t cm dF K)->Q2 i (λa' w'=>Ex (pOf w1.heap.size y lL p) w w'/\MH P Q2 ops (pOf w1.heap.size y lL p) Q t a' w') a w:=by
  intro i t K fr hp β a w B hI x c L R h;have⟨o,z,q⟩:=AF.1 h;have ho:ops[i]?=C o:=Y7;rcases sY x q with⟨hw,s⟩|⟨hw,s⟩
  .refine A.mono ?_ (A.Mx ho hw hI x c L (hr R.len) (lY.1 s));rintro a' w'⟨cm,dF,bR,f,g,d,m⟩;have⟨e1,e2⟩:=zhF R m;exact⟨e1,B cm dF bR a' w' m.mI g (d.trans c) (L.out m) e2 f⟩
  .have⟨cm,f,g,d⟩:=de s x ⟨#[],rfl,aA⟩;exact A.skip ho hw ⟨Ex.refl _ _,B cm hp β _ w hI g (d.trans c) L R f⟩
 intro t;induction t with
 |nil=>intro K fr hp β a w hQ hI x c L R h;exact hQ fr hp a w (zeq.1 h) ⟨β,hI,x,c,L⟩|op i k t B=>intro K fr hp β a w hQ hI x c L R h;match k,h with
  |0,h=>
   have⟨o,z,q⟩:=AF.1 h;have ho:ops[i]?=C o:=Y7;rcases sY x q with⟨hw,s⟩|⟨hw,s⟩
   .have⟨r,D,v,Q0,F⟩:=JB hT hI x s;have⟨cm,f,g,d⟩:=de D x Q0;refine⟨o,v,ho,.inl ⟨hw,λw' hx=>F w' ?_⟩,B K cm hp β _ w hQ hI g (d.trans c) L R f⟩;intro b J;rcases J with⟨k,f,M,N⟩|⟨Q1,X⟩
    .have Q4:cN p lL k=C b:=by rw[<-R.r2 k f M];exact N
     refine hx.2 b ⟨(I.lt Q4).1,λk' O e=>?_⟩ (hI.lt N).1;have:=I.dis k' k b e Q4;simp_all
    .have h7:=aO Q1 I.kp.size;refine hx.2 b ⟨h7,λk' O e=>?_⟩ (aO h7 R.size);rcases(I.lt e).2 with h8|h8;.omega
     .exact X h8
   .have⟨cm,f,g,d⟩:=de s x ⟨#[],rfl,aA⟩;exact⟨o,undef,ho,.inr ⟨hw,rfl⟩,B K cm hp β _ w hQ hI g (d.trans c) L R f⟩|1,h=>exact step1 i t K fr hp β a w (λfr hp β a w q s D Q0 F Q4=>B K fr hp β a w hQ q s D Q0 F Q4) hI x c L R h|k+2,h=>
   have⟨o,z,q⟩:=AF.1 h;have ho:ops[i]?=C o:=Y7;rcases sY x q with⟨hw,s⟩|⟨hw,s⟩
   .refine A.mono ?_ (A.Mx (W:=U) ho hw hI x c L (λ_ _=>trivial) (lY.1 s));rintro a' w'⟨cm,dF,bR,f,g,d,m⟩;exact late t K cm dF a' w' hQ ⟨bR,m.mI,g,d.trans c,L.out m⟩ f
   .have⟨cm,f,g,d⟩:=de s x ⟨#[],rfl,aA⟩;exact A.skip ho hw (late t K cm hp _ w hQ ⟨β,hI,g,d.trans c,L⟩ f)
 |iY i k t j l u Q5 Z=>intro K fr hp β a w hQ hI x c L R h;have⟨q,s⟩:=h;exact⟨step1 i t K fr hp β a w (λfr hp β a w q s D Q0 F Q4=>Q5 K fr hp β a w hQ q s D Q0 F Q4) hI x c L R s,step1 j u K fr hp β a w (λfr hp β a w q s D Q0 F Q4=>Z K fr hp β a w hQ q s D Q0 F Q4) hI x c L R (q K s)⟩
end
end Ab
open Go.RowKit
namespace Ab
section loops
variable{P:al}{Q:mN->Act->V->Prop}{a:Act}{w:V}
def IZ(P:al)(Q:mN->Act->V->Prop)(c:Code)(a:Act)(w:V):Prop:=∀(b:Frame)(k:List Item)(d:List Frame),∃e f g,Q e f g/\Arrives P (lone (b.at a (.code c::.inLoop c::k)) d w) b k d e f g
variable{c:Code}
def zcJ(h:IZ P Q c a w):(Code.loop c).wp P Q a w:=by intro b k f;have⟨e,g,i,q,d⟩:=h b k f;exact⟨e,g,i,q,.of_steps (.one step_loop) d⟩
def zey(h:c.wp P (Cq (λr s=>IZ P Q c r s) Q) a w):IZ P Q c a w:=by intro b k p;obtain⟨e,n,o,q,d⟩:=h b (.inLoop c::k) p;cases e with|normal=>have⟨i,j,m,g,f⟩:=q b k p;exact⟨i,j,m,g,.of_steps (Steps.trans d (.one step_inLoop)) f⟩|exit id=>exact⟨_,n,o,q,.pass rfl (λ_ _=>.inl Y1) d⟩|goto l=>exact⟨_,n,o,q,.pass rfl (λ_ _=>.inl Y1) d⟩|ret=>exact⟨_,n,o,q,.pass rfl (λ_ _=>.inl Y1) d⟩|panic ch=>exact⟨_,n,o,q,.pass rfl (λ_ _=>.inl Y1) d⟩|outgrown=>exact⟨_,n,o,q,.pass rfl (λ_ _=>.inl Y1) d⟩
def JH{σ:Type}(I:σ->Act->V->Prop)(μ:σ->Nat)(k:σ)(d:I k a w)(r:∀x a w,I x a w->c.wp P (Cq (λg j=>∃f,I f g j/\μ f<μ x) Q) a w):IZ P Q c a w:=by
 have m:∀n x a w,μ x=n->I x a w->IZ P Q c a w:=by intro n;induction n using Nat.strongRecOn with|_ n i=>
  intro x a w o p;refine zey (wp_mono (r x a w p) ?_);intro e g j h
  cases e with|normal=>have⟨f,b,l⟩:=h;exact i (μ f) (o▸l) f g j rfl b|_=>exact h
 grind
end loops
def WN:AV->AV|.l x=>.l x|.a cs=>.a cs|.t _=>.j|.j=>.j
variable{f:Fr}{K:Fr->Prop}
def zfW:Zf f K↔K (f.map WN):=by induction f generalizing K with|nil=>simp[Zf]|cons a r i=>cases a<;>simp[Zf,i,WN]
def zhP{α:Type}(l:List α)(k:Nat)(x:α):Option (List α):=if k<l.length then C (l.set k x)else U
def UT:List Nat->Fr->Option Fr|[],f=>C f|k::r,f=>(zhP f k .j).bind (UT r)
def OP{α:Type}:List (Nat×α)->List α->Option (List α)|[],f=>C f|(k,x)::r,f=>(zhP f k x).bind (OP r)
def zge{ws:List Nat}:Zo ws f K↔∃cm,UT ws f=C cm/\K cm:=by induction ws generalizing f with|nil=>simp[Zo,UT]|cons a r i=>simp[Zo,UT,iE,zhP];by_cases h:a<f.length<;>simp[h,i]
def zlm{u:List (Nat×AV)}:zhT u f K↔∃cm,OP u f=C cm/\K cm:=by induction u generalizing f with|nil=>simp[zhT,OP]|cons a r i=>have⟨k,x⟩:=a;simp[zhT,OP,iE,zhP];by_cases h:k<f.length<;>simp[h,i]
def zln{u:List (Nat×HB)}{hp:Hp}{K:Hp->Prop}:zhU u hp K↔∃dF,OP u hp=C dF/\K dF:=by induction u generalizing hp with|nil=>simp[zhU,OP]|cons a r i=>have⟨k,x⟩:=a;simp[zhU,OP,hX,zhP];by_cases h:k<hp.length<;>simp[h,i]
def UR(ws:List Nat)(b:Fr)(hp:Hp)(u:List (Nat×AV))(v:List (Nat×HB)):Option (Fr×Hp):=(UT ws (b.map WN)).bind λa=>(OP u a).bind λf=>(OP v hp).map λp=>(f,p)
def jc{ws:List Nat}{c:Fr}{hp:Hp}{u:List (Nat×AV)}{v:List (Nat×HB)}{K:Fr->Hp->Prop}:u4 ws c hp u v K↔∃a ht,UR ws c hp u v=C (a,ht)/\K a ht:=by
 simp[u4,zfW,zge,zlm,zln,UR];constructor;.grind
 .rintro⟨a,ht,h,b⟩;cases k:UT ws (c.map WN)with|none=>rw[k]at h;cases h|some d=>rw[k]at h;simp[fZ]at h;cases hu:OP u d with|none=>rw[hu]at h;cases h|some f=>rw[hu]at h;simp only[fZ]at h;cases e:OP v hp with|none=>rw[e]at h;cases h|some p=>rw[e]at h;simp[cG,ay,aX]at h;obtain⟨rfl,rfl⟩:=h;simp_all
section
variable{P:al}{cx:Cx}{β:List En}{hp:Hp}{w:V}{β0:List En}{hp0:Hp}{w0:V}
def A1:∀{l:List Nat},W2 l=E->∀(i j:Nat)(k:Nat),l[i]?=C k->l[j]?=C k->i=j
 |[],_,i,_,_,h,_=>by simp at h|a::l,h,i,j,k,b,c=>by
  simp[W2,aj,Bool.not_eq_true']at h;have n:a∉l:=λe=>by rw[AI.2 e]at h;cases h.1
  cases i with
  |zero=>cases j with |zero=>rfl|succ j=>simp at b c;subst b;cases n (fb c)
  |succ i=>cases j with|zero=>simp at b c;subst c;cases n (fb b)|succ j=>have:=A1 h.2 i j k Y7 Y7;omega
def enT(t:HB)(e:Option En):En:=match t,e with|.b _ _,C (.b n)=>.b n|.r a _ _,C (.r v _)=>.r v a|.x _,C e=>e|_,_=>.x
def OH(β:List En):List HB->List Nat->List En|t::a,k::b=>enT t β[k]?::OH β a b|_,_=>[]
variable{ρ:List Nat}
def tn:∀{e:List HB}{i k:Nat}{t:HB},e.length=ρ.length->e[i]?=C t->ρ[i]?=C k->(OH β e ρ)[i]?=C (enT t β[k]?):=by induction ρ with|nil=>intro e i k t _ _ h;simp at h|cons a r d=>intro e i k t l b c;cases e with|nil=>simp at l|cons x xs=>cases i with|zero=>simp at b c;subst b;subst c;rfl|succ i=>simpa[OH]using d Y7 Y7 Y7
def zjS:∀{t:List HB},t.length=ρ.length->(OH β t ρ).length=t.length:=by induction ρ with|nil=>intro t l;cases t<;>simp_all[OH]|cons a r i=>intro t l;cases t with|nil=>simp at l|cons x xs=>simp[OH,i (by simpa using l)]
def zfS{Z hs:Hp}(A:Z.length=ρ.length)(hI:ki cx β hs w){t s:LV}{v:Y}(h:zfs ρ Z hs t s)(R:LC cx β s v):LC cx (OH β Z ρ) t v:=by refine⟨R.1,?_⟩;cases t with
 |v x=>subst h;exact R.2|str l=>subst h;exact R.2|f l=>subst h;exact R.2|fx u l=>subst h;exact R.2|j=>trivial|e=>cases h|g=>cases h|o T k=>
  cases s<;>first|exact h.elim|skip
  rename_i J W;obtain⟨rfl,d,a⟩:=h;have⟨_,n,q,b⟩:=R;have⟨x,c,r⟩:=dX.1 a;split at r;.exact⟨n,by rw[tn A c d,q];rfl,b⟩
  .cases r|m k=>
  cases s<;>first|exact h.elim|skip
  rename_i W;have⟨d,a⟩:=h;have⟨_,n,q,b⟩:=R;have⟨x,c,r⟩:=dX.1 a;split at r;.exact⟨n,by rw[tn A c d,q];rfl,b⟩
  .cases r|p k off=>
  cases s<;>first|exact h.elim|skip
  rename_i W P;obtain⟨d,rfl,a⟩:=h;have⟨_,n,q,b⟩:=R;have⟨x,c,r⟩:=dX.1 a;split at r;.exact⟨n,by rw[tn A c d,q];rfl,b⟩
  .cases r|s k y=>
  cases s<;>first|exact h.elim|skip
  rename_i W z;have⟨d,q⟩:=h;have⟨Q0,l,b,a⟩:=dM q;have⟨D,F,c,_⟩:=dM a;have⟨X,S,r3,G⟩:=iT hI c;have:=F3 R S;exact⟨X,y,by rw[tn A b d,S];rfl,ao _,λ_=>this⟩|w k y K i n=>
  cases s<;>first|exact h.elim|skip
  .rename_i W z;obtain⟨⟨d,rfl⟩,q⟩:=h;have⟨Q0,l,b,a⟩:=dM q;obtain⟨D,F,c,rfl,rfl⟩:=dM a;have⟨X,S,r3,G⟩:=iT hI c;have:=F3 R S;subst this;refine⟨v,y,by rw[tn A b d,S];rfl,ao _,λ_=>?_⟩;rcases r3.2 with⟨B,Q⟩|⟨g,cap,cur,B,L,M,b,a,c,r⟩;.exact⟨_,_,by rw[B,Q],⟨λ_=>rfl,λad e=>(by cases e)⟩,λh=>Y0⟩
   .exact⟨C ⟨g,0,U⟩,cap,B,⟨Y9,λad e=>(by cases e;rw[B];rfl)⟩,λ_=>⟨g,_,_,B,Y1,Y0,Y0⟩⟩
  .rename_i W z I N O;obtain⟨⟨d,rfl,rfl,rfl⟩,q⟩:=h;have⟨Q0,l,b,a⟩:=dM q;have⟨D,F,c,_⟩:=dM a;have⟨X,S,r3,G⟩:=iT hI c;have:=U8 R S;exact⟨X,y,by rw[tn A b d,S];rfl,ao _,λ_=>this⟩
def l3{ρ:List Nat}{g i:Hp}{bR:List En}(k:∀t s v,zfs ρ g i t s->LC cx β s v->LC cx bR t v):∀{a f:List LV}{vs:List Y}{p:Prop},OS ρ g i a f p->(p/\(gi cx β f vs->gi cx bR a vs))
 |[],[],[],_,h=>⟨h,λ_=>trivial⟩|[],[],_::_,_,h=>⟨h,λh=>h.elim⟩|t::a,s::f,vs,p,h=>by
  have m:OS ρ g i a f p->(∀v,LC cx β s v->LC cx bR t v)->p/\(gi cx β (s::f) vs->gi cx bR (t::a) vs):=by intro b c;cases vs with |nil=>exact⟨(l3 k (vs:=[]) b).1,λh=>h.elim⟩|cons v vs=>have⟨d,e⟩:=l3 k (vs:=vs) b;exact⟨d,λh=>⟨c v h.1,e h.2⟩⟩
  cases t with |j=>exact m h λv l=>⟨l.1,aA⟩|_=>have⟨b,c⟩:=aH.1 h;grind
 |[],_::_,_,_,h=>h.elim|_::_,[],_,_,h=>h.elim
def Vk{ρ:List Nat}{r u:Hp}{bR:List En}(q:∀t s v,zfs ρ r u t s->LC cx β s v->LC cx bR t v):∀{b o:Fr}{p:Prop},zbz ρ r u b o p->p/\b.length=o.length/\∀(i:Nat)t s v,b[i]?=C t->o[i]?=C s->AC cx β s v->AC cx bR t v
 |[],[],_,h=>⟨h,rfl,λi t s v c=>by simp at c⟩|t::b,s::o,p,h=>by
  have n:zbz ρ r u b o p->(∀v,AC cx β s v->AC cx bR t v)->p/\(t::b).length=(s::o).length/\∀(i:Nat)d w v,(t::b)[i]?=C d->(s::o)[i]?=C w->AC cx β w v->AC cx bR d v:=by intro c e;have⟨f,g,k⟩:=Vk q c;refine⟨f,by simp[g],λi d w v A B F=>?_⟩;cases i with|zero=>simp[bz,ay]at A B;subst A B;exact e v F|succ i=>grind
  unfold zbz at h;cases t with
  |j=>exact n h λv _=>trivial|t=>cases h|l x=>
   dsimp only at h;split at h
   .rename_i y;refine n ((l3 (vs:=[]) q h).1) λv z=>?_;have:=(l3 (vs:=[v]) q h).2 ⟨z,aA⟩;exact this.1
   .cases h|a xs=>
   dsimp only at h;split at h
   .rename_i J;refine n ((l3 (vs:=[]) q h).1) λv z=>?_;have⟨G,m,I⟩:=z;exact⟨G,m,(l3 q h).2 I⟩
   .cases h
 |[],_::_,_,h=>h.elim|_::_,[],_,h=>h.elim
def Qc{N:Nat}{ρ:List Nat}{X S:Hp}{bR:List En}(Z:ki cx β S w)(hc:∀t s v,zfs ρ X S t s->LC cx β s v->LC cx bR t v):∀{i:Nat}{o:List HB}{q:List Nat}{p:Prop},OQ N ρ X S i o q p->p/\o.length=q.length/\∀(j:Nat)t k,o[j]?=C t->q[j]?=C k->HOk cx bR w t (enT t β[k]?)/\(∀b,nG t (enT t β[k]?)=C b->cN S β k=C b)/\(i+j<N->i+j=k/\∃e,β[k]?=C e/\enT t β[k]?=e)
 |i,[],[],_,h=>⟨h,rfl,λj t k a=>by simp at a⟩|i,t::o,k::q,p,h=>by
  have⟨s,g,a⟩:=dX.1 h;have B:k<β.length:=by rw[Z.len];grind
  have c:=aN B;have M:=Z.Ds k _ _ g c;have L:OQ N ρ X S (i+1) o q p->(HOk cx bR w t (enT t β[k]?)/\(∀b,nG t (enT t β[k]?)=C b->cN S β k=C b)/\(i<N->i=k/\∃e,β[k]?=C e/\enT t β[k]?=e))->p/\(t::o).length=(k::q).length/\∀(j:Nat)m O,(t::o)[j]?=C m->(k::q)[j]?=C O->HOk cx bR w m (enT m β[O]?)/\(∀b,nG m (enT m β[O]?)=C b->cN S β O=C b)/\(i+j<N->i+j=O/\∃e,β[O]?=C e/\enT m β[O]?=e):=by intro P Q;have⟨g3,g4,g5⟩:=Qc Z hc P;refine⟨g3,by simp[g4],λj m O J D=>?_⟩;cases j with|zero=>simp[bz,ay]at J D;subst J D;exact Q|succ j=>have:=g5 j m O Y7 Y7;rw[show i+1+j=i+(j+1)by omega]at this;exact this
  cases t with
  |x Φ=>
   dsimp only at a;split at a
   .rename_i Φ';have⟨P,z⟩:=aH.1 a;have⟨Q,y⟩:=aH.1 z;apply L y;cases R:β[k]with
    |b n=>
     rw[R]at c M;rw[c];have⟨o1,F,o2,o3⟩:=M;refine⟨⟨o1,F,o2,Q F o3⟩,λb f=>?_,λW=>?_⟩;.rw[dK g c];exact f
     .refine⟨?_,_,rfl,rfl⟩;simp[dm,x9,tC]at P;omega|r v u=>rw[R]at c;rw[c];refine⟨aA,λb f=>(by cases f),λW=>⟨?_,_,rfl,rfl⟩⟩;simp[dm,x9,tC]at P;omega|x=>rw[R]at M;cases M
   .cases a|d=>
   have⟨P,Q⟩:=aH.1 a;refine L Q ⟨?_,λb c=>by simp[nG]at c,λW=>?_⟩;.rw[c];trivial
   .have:N<=i:=Y7;omega|b cs T=>
   dsimp only at a;split at a;.rename_i cs' T';have⟨P,z⟩:=aH.1 a;have⟨Q,y⟩:=aH.1 z;have hT:=aE Q;subst hT;apply L (l3 (vs:=[]) hc y).1;cases R:β[k]with
    |b n=>
     rw[R]at c M;rw[c];have⟨o1,us,o2,o3⟩:=M;refine⟨⟨o1,us,o2,(l3 hc y).2 o3⟩,λb f=>?_,λW=>?_⟩;.rw[dK g c];exact f
     .refine⟨?_,_,rfl,rfl⟩;simp[dm,x9,tC]at P;omega|_=>rw[R]at M;cases M
   .cases a|r u Q0 l=>
   dsimp only at a;split at a;.rename_i zfC E' I;have⟨P,z⟩:=aH.1 a;have⟨Q,y⟩:=aH.1 z;have⟨g3,G⟩:=aH.1 y;have K:=aE Q;subst K g3;apply L G;cases R:β[k]with
    |r v A=>
     rw[R]at c M;rw[c];have⟨o1,o2,o3⟩:=M;refine⟨⟨rfl,o2,o3⟩,λb f=>?_,λW=>?_⟩;.rw[dK g c];exact f
     .simp[dm,aj,x9,tC]at P;refine⟨Y0,_,rfl,?_⟩;show En.r v u=En.r v A;have:u=zfC:=Y0;rw[this,o1]|_=>rw[R]at M;cases M
   .cases a
 |_,[],_::_,_,h=>h.elim|_,_::_,[],_,h=>h.elim
def AD{y fs:Fr}{S hs:Hp}{T:Array Y}(h:cov hp0.length ρ y S fs hs)(hI:ki cx β hs w)(z:FR cx β fs T)(L:Lk β0 hp0 w0 β hs w):∃bR,ki cx bR S w/\FR cx bR y T/\Lk β0 hp0 w0 bR S w:=by
 have⟨hn,B⟩:=aH.1 h;simp[aj,x9,tC]at hn;have⟨⟨c,o⟩,a⟩:=hn;rw[vd]at a;have hc:∀t s v,zfs ρ S hs t s->LC cx β s v->LC cx (OH β S ρ) t v:=λt s v=>zfS a hI;have⟨Q,_,m⟩:=Qc hI hc B;have⟨_,A,D⟩:=Vk hc Q;have get:∀(j:Nat)t,S[j]?=C t->∃k,ρ[j]?=C k/\(OH β S ρ)[j]?=C (enT t β[k]?):=λj t hj=>by have l:j<ρ.length:=Y8;exact⟨ρ[j],aN l,tn a hj (aN l)⟩
 have own:∀(j:Nat)b,cN S (OH β S ρ) j=C b->∃k,ρ[j]?=C k/\cN hs β k=C b:=λj b p=>by have⟨t,e,W,Z,g3⟩:=ix p;have⟨k,g4,g5⟩:=get j t W;rw[Z]at g5;obtain rfl:=fO g5;grind
 refine⟨OH β S ρ,⟨hI.kp,zjS a,λj t e W Z=>?_,λi j b W Z=>?_⟩,⟨A.trans z.1,λi t hi=>?_⟩,⟨λk e Q0 F=>?_,λk b p=>?_,L.size,Y0,L.sb⟩⟩;.grind
 .have⟨k1,G,R⟩:=own i b W;have⟨I,J,K⟩:=own j b Z;have:=hI.dis k1 I b R K;subst this;exact A1 c i j k1 G J
 .have l:i<fs.length:=Y8;have d:=aN l;exact D i t _ _ hi d (z.2 i _ d)
 .have f:k<S.length:=Y0;have⟨q,g4,g5⟩:=get k _ (aN f);have⟨g6,P,g7,g8⟩:=(m k _ q (aN f) g4).2.2 Y0;have g9:k=q:=Y0;subst g9;have X:=L.ext k e Q0 F;rw[g8]at g5;cases e with|b n=>rw[g5,<-g7];exact X|r v M=>have⟨v',g,x1,N⟩:=X;simp_all|x=>trivial
 .have⟨q,W,Z⟩:=own k b p;rcases L.om q b Z with⟨g3,g4⟩|g3
  .have O:q<ρ.length:=Y0;have u:q<S.length:=Y0;have hρq:=aN O;have⟨g6,_⟩:=(m q _ _ (aN u) hρq).2.2 Y0;have g7:ρ[q]=q:=Y0;rw[g7]at hρq;have:=A1 c k q q W hρq;subst this;simp_all
  .omega
end
end Ab
open Go.RowKit
namespace Ab
def zhF:Xt->mN|.n=>.normal|.x id=>.exit id|.r=>.ret
section
variable{P:al}{cx:Cx}{β:List En}{hp:Hp}{w:V}{β0:List En}{hp0:Hp}{w0:V}
def Qn(Q:mN->Act->V->Prop):mN->Act->V->Prop|.normal,a,w=>Q .normal a w|_,_,_=>False
variable{a:Act}
def zbQ{T:List dI}{W:Fr}(m:Nat)(X:At cx β0 hp0 w0 T W hp a w):At cx β0 hp0 w0 T W (hp++aP m .d) a w:=by
 obtain⟨β,P,Q0,y,L⟩:=X;have I:ki cx (β++aP m .x) (hp++aP m .d) w:=by
  refine⟨⟨P.kp.os,P.kp.tape,P.kp.output,P.kp.size,P.kp.block,P.kp.rows⟩,by simp[P.len],λk t e Q R=>?_,λi j b Q R=>?_⟩
  .by_cases h:k<hp.length
   .rw[cg h]at Q;rw[cg (by rw[P.len];exact h)]at R;refine(P.Ds k t e Q R).s4 ?_ (λb u=>rfl);intro k e f;have s:(β++aP m En.x)[k]?=C e:=Y8;cases e with |b n=>exact s|r v c=>grind|x=>trivial
   .rw[iQ Y0]at Q;rw[iQ (by rw[P.len];omega)]at R;simp only[dr]at Q R;split at Q<;>simp at Q;split at R<;>simp at R;subst Q R;trivial
  .have S:∀k b,cN (hp++aP m .d) (β++aP m .x) k=C b->cN hp β k=C b:=by
    intro k b u;have⟨x,e,g,A,B⟩:=ix u;by_cases h:k<hp.length
    .rw[cg h]at g;rw[cg (by rw[P.len];exact h)]at A;rw[dK g A];exact B
    .rw[iQ Y0]at g;simp only[dr]at g;split at g<;>simp at g;subst g;simp[nG]at B
   exact P.dis i j b (S i b Q) (S j b R)
 have o:uZ β (β++aP m .x):=by intro k e f;have s:(β++aP m En.x)[k]?=C e:=Y8;cases e with |b n=>exact s|r v c=>grind|x=>trivial
 have p:∀k,cN (hp++aP m .d) (β++aP m .x) k=cN hp β k:=by
  intro k;by_cases h:k<hp.length
  .unfold cN;rw[cg h,cg (by rw[P.len];exact h)]
  .rw[CC (by simp;omega:hp[k]?=U)];by_cases F:k<hp.length+m
   .have:(hp++aP m HB.d)[k]?=C .d:=by simp_all
    exact zjc this
   .exact CC (by simp;omega)
 have z:Lk β0 hp0 w0 (β++aP m .x) (hp++aP m .d) w:=by refine⟨λk e h f=>?_,λk b u=>L.om k b Y7,L.size,by have:=L.len;simp;omega,L.sb⟩;have l:=L.ext k e h f;cases e with|b n=>grind|r v c=>have⟨Z,D,G,O,J⟩:=l;have⟨v2,q,K,M,N⟩:=o k _ G;grind|x=>trivial
 exact⟨_,I,Q0.ext o,y,z⟩
variable{G:bK}
def Vn{T:lJ}(W:eV P T){X:List Nat}{J:Nat->Tr}{O:List dI}{M:Nat}{D:Array bU}{Q2:Nat->(Act->V->Prop)->Act->V->Prop}(s:zhx T G cx β0 hp0 w0 O D Q2){K:Xt->Fr->Hp->Prop}{Q:mN->Act->V->Prop}{N:Fr}{hp:Hp}{w:V}(Z:∀N hp a w,K .n N hp->At cx β0 hp0 w0 O N hp a w->Q .normal a w)(hA:At cx β0 hp0 w0 O N hp a w)(h:exec T G hp0.length X J (.region M D E) N hp K):(J M).len=D.size/\Region.noSelect D=E/\I6 .any D (J M).pv=E/\ml .any D (aK D.size H) (J M)=E/\∀d,∃p,MH P Q2 D p Q (J M) a {w with drawn:=d}:=by
 have⟨o,u⟩:=aH.1 h;simp[zoZ,aj,tC]at o;have⟨⟨⟨o1,o2⟩,o3⟩,o4⟩:=o;refine⟨o1,o2,o3,o4,λd=>?_⟩;have f:=zgk.1 (lY.1 (PK.1 u));rw[vd]at f;generalize B:UY D.toList D.size=m at f;obtain⟨β,F,y,j,L⟩:=zbQ m hA;have I:ki cx β (hp++aP m .d) {w with drawn:=d}:=⟨⟨F.kp.os,F.kp.tape,F.kp.output,F.kp.size,F.kp.block,F.kp.rows⟩,F.len,λk t e g1 g2=>by have:=F.Ds k t e g1 g2;revert this;cases t<;>cases e<;>exactλh=>h,F.dis⟩;have l:∀k,hp.length<=k->cN (hp++aP m .d) β k=U:=λk v=>by
  by_cases z:k<hp.length+m
  .have:(hp++aP m HB.d)[k]?=C .d:=by simp_all
   exact zjc this
  .exact CC (by simp;omega)
 exact⟨_,zgQ W s I l (J M) (λR S=>K .n R S) N _ _ a {w with drawn:=d} Z I y j ⟨L.ext,L.om,L.size,L.len,L.sb⟩ ⟨λk b A=>.inl A,λk _ _=>rfl,ao _,Y1⟩ f⟩
def Vs{T:lJ}(hT:eV P T)(hG:Ad P G cx)(hM:P.follows .mixedOrders=E){W0:List Nat}{TR:Nat->Tr}{d0:List dI}:∀(c:Code)(K:Xt->Fr->Hp->Prop)(Q:mN->Act->V->Prop)(fr:Fr)(hp:Hp)(a:Act)(w:V),(∀e fr hp a w,K e fr hp->At cx β0 hp0 w0 d0 fr hp a w->Q (zhF e) a w)->At cx β0 hp0 w0 d0 fr hp a w->exec T G hp0.length W0 TR c fr hp K->c.wp P Q a w:=by intro c;induction c with
 |skip=>intro K Q fr hp a w hQ hA h;exact wp_skip (hQ .n fr hp a w h hA)|region id ops draw=>intro K Q fr hp a w hQ hA h;cases draw with |false=>apply wp_region;have:=zaf hT hG (λfr hp a w k hA=>hQ .n fr hp a w k hA) ops.toList 0 fr hp a w rfl hA h;rwa[List.range_eq_range',<-cv]|true=>have⟨o1,o2,o3,o4,I⟩:=Vn (Q:=Qn Q) hT (zfZ (Q:=Qn Q) hT hG) (λfr hp a w k hA=>hQ .n fr hp a w k hA) hA h;have⟨p,I⟩:=I (w.drawn+1);apply wp_mono (il p (TR id) hM o1 o2 o3 o4 (λc a d v w Q2=>Q2.elim) I);intro e a w h;cases e<;>first|exact h|cases h
 |seq x y s z=>intro K Q fr hp a w hQ hA h;refine wp_seq (s _ _ fr hp a w ?_ hA h);intro e Z dF a' w' k A;cases e with|n=>exact z K Q Z dF a' w' hQ A k|x id=>exact hQ (.x id) Z dF a' w' k A|r=>exact hQ .r Z dF a' w' k A
 |cond c x y s z=>
  intro K Q fr hp a w hQ hA h;obtain⟨β,hI,o,f,L⟩:=hA;have⟨r,i,j⟩:=cH o h;split at i;.rename_i t;rw[I0]at i;exact wp_cond_split j.2 (λht=>s K Q fr hp a w hQ ⟨β,hI,o,f,L⟩ (i.1 ht)) (λht=>z K Q fr hp a w hQ ⟨β,hI,o,f,L⟩ (i.2 ht))
  .cases i|block id c Q0=>intro K Q fr hp a w hQ hA h;refine wp_block (Q0 _ _ fr hp a w ?_ hA h);intro e Z dF a' w' k A;cases e with|n=>exact hQ .n Z dF a' w' k A|r=>exact hQ .r Z dF a' w' k A|x q=>
   show(if q=id then Q .normal a' w' else Q (.exit q) a' w')
   cases F:bD q id with |true=>simp[F]at k;rw[if_pos (aE F)];exact hQ .n Z dF a' w' k A|false=>simp[F]at k;rw[if_neg (λe=>Y7)];exact hQ (.x q) Z dF a' w' k A
 |loop c Q0=>
  intro K Q fr hp a w hQ hA h;have key:∀(fr:Fr)(hp:Hp)(a:Act)(w:V),At cx β0 hp0 w0 d0 fr hp a w->Lc hp0.length (exec T G hp0.length W0 TR c) (wrs c) fr hp K->IZ P Q c a w:=by intro fr hp a w hA h;cases h with
   |it n h=>apply JH (λn a w=>∃fr hp,At cx β0 hp0 w0 d0 fr hp a w/\Zn (exec T G hp0.length W0 TR c) n fr hp K) id n ⟨fr,hp,hA,h⟩;rintro n a w⟨fr,hp,hA,h⟩;cases n with|zero=>cases h|succ n=>refine Q0 _ _ fr hp a w ?_ hA h;intro e Z dF a' w' k A;cases e with |n=>exact⟨n,⟨Z,dF,A,k⟩,Nat.lt_succ_self n⟩|x id=>exact hQ (.x id) Z dF a' w' k A|r=>exact hQ .r Z dF a' w' k A
   |mI σ u v μ x0 ρ W h=>
    apply JH (λx a w=>∃l ht,UR (wrs c) fr hp (u x) (v x)=C (l,ht)/\At cx β0 hp0 w0 d0 l ht a w) μ x0
    .have⟨l,ht,i,j⟩:=jc.1 W;obtain⟨β,hI,o,f,L⟩:=hA;obtain⟨bR,g1,g2,g3⟩:=AD j hI o L;exact⟨l,ht,i,bR,g1,g2,f,g3⟩
    .rintro x a w⟨l,ht,i,A⟩;have⟨J,M,j,N⟩:=jc.1 (h x);rw[i]at j;simp[ay,aX]at j;obtain⟨rfl,rfl⟩:=j;refine Q0 _ _ l ht a w ?_ A N;intro e Z dF a' w' k b
     cases e with |n=>obtain⟨x',ρ',B,O⟩:=k;have⟨X,D,R,S⟩:=jc.1 O;obtain⟨β,hI,o,f,L⟩:=b;obtain⟨bR,g1,g2,g3⟩:=AD S hI o L;exact⟨x',⟨X,D,R,bR,g1,g2,f,g3⟩,B⟩|x id=>exact hQ (.x id) Z dF a' w' k b|r=>exact hQ .r Z dF a' w' k b
   |zhK m σ u v μ x0 ρ W h=>
    simp only[PK]at W h;apply JH (λx a w=>∃l ht,UR (wrs c) fr (hp++aP m .d) (u x) (v x)=C (l,ht)/\At cx β0 hp0 w0 d0 l ht a w) μ x0
    .have⟨l,ht,i,j⟩:=jc.1 W;obtain⟨β,hI,o,f,L⟩:=zbQ m hA;obtain⟨bR,g1,g2,g3⟩:=AD j hI o L;exact⟨l,ht,i,bR,g1,g2,f,g3⟩
    .rintro x a w⟨l,ht,i,A⟩;have⟨J,M,j,N⟩:=jc.1 (h x);rw[i]at j;simp[ay,aX]at j;obtain⟨rfl,rfl⟩:=j;refine Q0 _ _ l ht a w ?_ A N;intro e Z dF a' w' k b
     cases e with |n=>obtain⟨x',ρ',B,O⟩:=k;have⟨X,D,R,S⟩:=jc.1 O;obtain⟨β,hI,o,f,L⟩:=b;obtain⟨bR,g1,g2,g3⟩:=AD S hI o L;exact⟨x',⟨X,D,R,bR,g1,g2,f,g3⟩,B⟩|x id=>exact hQ (.x id) Z dF a' w' k b|r=>exact hQ .r Z dF a' w' k b
  apply zcJ;cases h with|g h=>grind|un n h=>induction n generalizing fr hp a w with|zero=>exact key fr hp a w hA h|succ n Q1=>refine zey (Q0 _ _ fr hp a w ?_ hA h);intro e Z dF a' w' k A;cases e with|n=>exact Q1 Z dF a' w' A k|x id=>exact hQ (.x id) Z dF a' w' k A|r=>exact hQ .r Z dF a' w' k A
 |exit id=>intro K Q fr hp a w hQ hA h;exact wp_exit (hQ (.x id) fr hp a w h hA)|ret=>intro K Q fr hp a w hQ hA h;exact wp_ret (hQ .r fr hp a w h hA)|_=>intro K Q fr hp a w hQ hA h;cases h
def zbK(a:Act)(r:kP):Sem Y:=match r with|.tmp t=>pure (a.tmps.getD t undef)|.cell b t=>do loadVar t (<-asAddr (a.tmps.getD b undef))
def zcT(f:dH)(a:Act):results f a.tmps=(do let v<-f.results.mapM (zbK a)pure (if h:v.size=1 then v[0]else .tuple v)):=by congr 1
def zap{T:lJ}(j:eV P T){i:Fr}(I:ki cx β hp w)(f:FR cx β i a.tmps){r:kP}{K:AV->Prop}(h:zqX T i hp r K):∃x,K x/\∃v,AC cx β x v/\(zbK a r).run P w=.ok v w:=by cases r with|tmp t=>have⟨x,d,e⟩:=oS.1 h;exact⟨x,e,_,f.2 t x d,rfl⟩|cell b t=>
 have⟨x,d,v,e,g⟩:=JB (o:={dst:=U,op:=.load t (.tmp b),type:=0,pos:= "",after:=#[],guard:=U}) j I f h;refine⟨x,d,v,e,?_⟩;have c:=g w rfl;simp only[aG,a8,zbK]at c⊢;cases k:a.tmps.getD b undef<;>rw[k]at c<;>first|(simp[dz,cC,stuck,Sem.run]at c;done)|skip
 rename_i ad;cases ad with|none=>simp[dz,cC,stuck,Sem.run]at c|some ad=>simp[dz,cC,Sem.run_bind,Sem.run_pure,aL,asAddr]at c⊢;cases l:(loadVar t ad).run P w with|ok u m=>rw[l]at c;simp at c;rw[c.1,c.2]|halt x m=>rw[l]at c;simp at c
def zcS{x:AV}{v:Y}{K:(LV⊕List LV)->Prop}(h:zit x K)(c:AC cx β x v):∃y,K y/\∀a b,Wd cx β a b->Wd cx β (y::a) (v::b):=by
 unfold zit at h;split at h;.exact⟨_,h,λa b t=>⟨c,t⟩⟩
 .exact⟨_,h,λa b t=>⟨c,t⟩⟩
 .cases h
def VN{T:lJ}(s:eV P T){t:Fr}{a:Act}(I:ki cx β hp w)(f:FR cx β t a.tmps):∀{rs:List kP}{K:List (LV⊕List LV)->Prop}(o:Array Y),ziu T t hp rs K->∃q,K q/\∃p:List Y,Wd cx β q p/\p.length=rs.length/\(rs.foldlM (λ(b:Array Y)(r:kP)=>l6 b.push (zbK a r)) o).run P w=.ok (o++p.toArray) w|[],K,o,h=>⟨[],h,[],aA,rfl,Y1⟩|r::rs,K,o,h=>by have⟨x,d,v,e,g⟩:=zap s I f h;have⟨y,i,j⟩:=zcS d e;have⟨q,k,p,l,m,n⟩:=VN s I f (o.push v) i;refine⟨y::q,k,v::p,j _ _ l,by simp[m],?_⟩;rw[fY];change Sem.run P ((zbK a r>>=λc=>pure (o.push c))>>=λb=>rs.foldlM _ b) w=_;rw[Sem.run_bind,Sem.run_bind,g];simp only[aL,Sem.run_pure];rw[n];simp
def xb{T:lJ}(p:eV P T){q:Fr}{n:dH}(I:ki cx β hp w)(j:FR cx β q a.tmps){K:AV->Prop}(h:Ww T q hp n.results.toList K):∃x,K x/\∃v,AC cx β x v/\(results n a.tmps).run P w=.ok v w:=by
 have run:∀(m:List Y),(n.results.toList.foldlM (λ(b:Array Y)(r:kP)=>l6 b.push (zbK a r)) #[]).run P w=.ok m.toArray w->(results n a.tmps).run P w=.ok (if h:m.toArray.size=1 then m.toArray[0]else .tuple m.toArray) w:=by intro m s;rw[zcT,Sem.run_bind,Array.mapM_eq_foldlM,<-Array.foldlM_toList];rw[s,aL];rfl
 unfold Ww at h;split at h
 .rename_i r o;have⟨x,d,v,f,g⟩:=zap p I j h;refine⟨x,d,v,f,?_⟩;apply run [v];rw[o,fY];change Sem.run P ((zbK a r>>=λc=>pure ((#[]:Array Y).push c))>>=λb=>pure b) w=_;rw[Sem.run_bind,Sem.run_bind,g];simp
 .rename_i rs i;have⟨t,d,m,f,g,k⟩:=VN p I j #[] h;refine⟨_,d,.tuple m.toArray,⟨_,rfl,Y0⟩,?_⟩;rw[run m Y7,dif_neg];intro e;have l:m.length=1:=Y0;rw[g]at l;have⟨r,o⟩:=List.length_eq_one_iff.1 l;exact i r o
def Gp:∀(n:Nat)(x:Fr),x.length<=n->(CZ n x).length=n|0,x,h=>by simpa[CZ]using h|n+1,[],_=>by simp[CZ,Gp n [] Y1]|n+1,_::x,h=>by simp[CZ,Gp n x Y7]
def Gn:∀(n:Nat)(a:Fr)(i:Nat)(x:AV),(CZ n a)[i]?=C x->a[i]?=C x\/x=.j
 |0,a,i,x,h=>.inl h|n+1,[],0,x,h=>by simp[CZ]at h;simp_all|n+1,[],i+1,x,h=>by
  rcases Gn n [] i x (by simpa[CZ]using h)with h|h;.simp at h
  .exact .inr h|n+1,y::a,0,x,h=>by simp[CZ]at h;simp_all|n+1,y::a,i+1,x,h=>by simpa using Gn n a i x (by simpa[CZ]using h)
def IL.get:∀{d:List AV}{e:List Y}{i:Nat}{x:AV},IL cx β d e->d[i]?=C x->∃v,e[i]?=C v/\AC cx β x v|[],_,_,_,_,h=>by simp at h|_::_,[],_,_,c,_=>c.elim|y::d,v::e,0,x,c,h=>by simp at h;subst h;exact⟨v,rfl,c.1⟩|y::d,v::e,i+1,x,c,h=>by obtain⟨u,a,b⟩:=IL.get c.2 (by simpa using h);simp_all
def IL.length:∀{x:List AV}{v:List Y},IL cx β x v->x.length=v.length|[],[],_=>rfl|_::_,_::_,h=>by simp[IL.length h.2]|[],_::_,h=>h.elim|_::_,[],h=>h.elim
def Cs{T:lJ}(B:eV P T)(F:Ad P G cx)(M:P.follows .mixedOrders=E){W:List Nat}{J:Nat->Tr}{f:bu}{A:dH}(o:P.funcs[f]?=C A){xs:List AV}{vs:Array Y}{K:AV->Hp->Prop}(N:ki cx β hp w)(D:IL cx β xs vs.toList)(O:xs.length<=A.ntmps)(h:FX T G hp.length W J A xs hp K):dE P f vs w λe w'=>∃v r s bR,e=.returned v/\K r s/\AC cx bR r v/\ki cx bR s w'/\Lk β hp w bR s w':=by
 unfold FX at h;split at h;.cases h
 .rename_i c Q;have z:xs.length=vs.size:=by rw[D.length];simp
  refine calls_of_wp o Q (Vs (β0:=β) B F M c _ _ _ hp _ w ?_ ⟨β,N,⟨?_,λi x R=>?_⟩,rfl,⟨λk e _ t=>?_,λk b u=>?_,ao _,ao _,λ_ _ _=>rfl⟩⟩ h)
  .intro e X s a w' p S;obtain⟨bR,I,j,l,L⟩:=S
   cases e with|n=>have⟨r,d,v,g,m⟩:=xb B I j p;exact⟨l,v,m,v,r,s,bR,rfl,d,g,I,L⟩|r=>have⟨r,d,v,g,m⟩:=xb B I j p;exact⟨l,v,m,v,r,s,bR,rfl,d,g,I,L⟩|x id=>cases p
  .rw[Gp _ _ O];simp;omega
  .rcases Gn _ _ i x R with d|rfl
   .have⟨v,g,m⟩:=D.get d;have q:i<vs.size:=by grind
    have:(vs++aK (A.ntmps-vs.size) undef).getD i undef=v:=by have y:vs[i]?=C v:=Y7;simp[Array.getD_eq_getD_getElem?,Array.getElem?_append_left q,y]
    rw[this];exact m
   .trivial
  .grind
  .have⟨x,e,d,_,_⟩:=ix u;grind
end
end Ab
open Go.RowKit
namespace Ab
inductive Sh where|int|bool|bn|bC|bytes|str|strs
@[reducible]def Sh.T:Sh->Type|.int=>Int|.bool=>Bool|.str=>List UInt8|.strs=>List (List UInt8)|.bn=>List Int|.bC=>List (Int×Int)|.bytes=>List UInt8
@[reducible]def HL:List Sh->Type|[]=>Unit|s::r=>s.T×HL r
@[reducible]def DA:List (Sh⊕List Sh)->Type|[]=>Unit|.inl s::r=>s.T×DA r|.inr a::r=>HL a×DA r
def zmu:(s:Sh)->s.T->LV|.int,n=>.v (.int .i64 n)|.bool,b=>.v (.bool b)|.bn,l=>.f (.bn l)|.bC,l=>.f (.bC l)|.bytes,l=>.f (.bytes l)|.str,l=>.str l|.strs,l=>.f (.strs l)
def zbD:(a:List Sh)->HL a->List LV|[],_=>[]|s::r,x=>zmu s x.1::zbD r x.2
def IT:(sig:List (Sh⊕List Sh))->DA sig->List AV|[],_=>[]|.inl s::r,x=>.l (zmu s x.1)::IT r x.2|.inr b::r,x=>.a (zbD b x.1)::IT r x.2
def zih:(s:Sh)->s.T->(LV->Prop)->Prop|.int,n,K=>K (.v (.int .i64 n))|.bool,b,K=>K (.v (.bool b))|.bn,l,K=>K (.f (.bn l))|.bC,l,K=>K (.f (.bC l))|.bytes,l,K=>K (.f (.bytes l))|.str,l,K=>K (.str l)|.strs,l,K=>K (.f (.strs l))
def Zi:(c:List Sh)->HL c->(List LV->Prop)->Prop|[],_,K=>K []|s::r,(a,b),K=>zih s a λx=>Zi r b λd=>K (x::d)
def ta:(sig:List (Sh⊕List Sh))->DA sig->(List AV->Prop)->Prop|[],_,K=>K []|.inl s::r,(a,b),K=>zih s a λx=>ta r b λc=>K (.l x::c)|.inr d::r,(a,b),K=>Zi d a λx=>ta r b λc=>K (.a x::c)
def Vu{s:Sh}{x:s.T}{K:LV->Prop}:zih s x K↔K (zmu s x):=by cases s<;>exact F7
def Jm:∀{c:List Sh}{x:HL c}{K:List LV->Prop},Zi c x K↔K (zbD c x)|[],_,_=>F7|s::r,(a,b),K=>by simp[Zi,Vu,Jm,zbD]
def mm:∀{c:List (Sh⊕List Sh)}{x:DA c}{K:List AV->Prop},ta c x K↔K (IT c x)|[],_,_=>F7|.inl s::r,(a,b),K=>by simp[ta,Vu,mm,IT]|.inr s::r,(a,b),K=>by simp[ta,Jm,mm,IT]
def bdL:(s:Sh)->s.T->Prop|.bn,l=>l.length<=lH|.bC,l=>l.length<=lH|.bytes,l=>l.length<=lH|.strs,l=>l.length<=lH|_,_=>True
def bds:(a:List Sh)->HL a->Prop|[],_=>True|s::r,x=>bdL s x.1/\bds r x.2
def bdA:(sig:List (Sh⊕List Sh))->DA sig->Prop|[],_=>True|.inl s::r,x=>bdL s x.1/\bdA r x.2|.inr a::r,x=>bds a x.1/\bdA r x.2
def rdE(w:V)(l:EL)(v:Y):Prop:=Sl w l.sz v l.len l.di/\l.len<=lH
def rdL(w:V):(s:Sh)->s.T->Y->Prop|.int,n,v=>v=.int .i64 n|.bool,b,v=>v=.bool b|.bn,l,v=>rdE w (.bn l) v|.bC,l,v=>rdE w (.bC l) v|.bytes,l,v=>rdE w (.bytes l) v|.str,l,v=>v=fR l|.strs,l,v=>rdE w (.strs l) v
def SC(w:V):(a:List Sh)->HL a->List Y->Prop|[],_,[]=>True|s::r,x,v::b=>rdL w s x.1 v/\SC w r x.2 b|_,_,_=>False
def rdA(w:V):(sig:List (Sh⊕List Sh))->DA sig->List Y->Prop|[],_,[]=>True|.inl s::r,x,v::a=>rdL w s x.1 v/\rdA w r x.2 a|.inr b::r,x,v::a=>(∃u,v=.agg u/\SC w b x.1 u.toList)/\rdA w r x.2 a|_,_,_=>False
inductive DL where|v(x:Y)|str(l:List UInt8)|s(Q0:ah)(l:EL)
inductive DV where|l(x:DL)|a(cs:List DL)|t(xs:List (DL⊕List DL))
def frL(w:V)(b:Nat)(d:DL)(v:Y)(a:List Nat):Prop:=match d with|.v x=>v=x/\x.oneCell'=E/\a=[]|.str l=>v=fR l/\a=[]|.s Q0 l=>w.ownsRow b Q0 l.sz v l.len l.di/\l.len<=lH/\a=v.ownBlock.toList
def CU(w:V)(e:Nat):List DL->List Y->List Nat->Prop|[],[],f=>f=[]|d::c,v::g,f=>∃b a,f=b++a/\frL w e d v b/\CU w e c g a|_,_,_=>False
def zfu(w:V)(e:Nat):List (DL⊕List DL)->List Y->List Nat->Prop|[],[],f=>f=[]|.inl d::c,v::g,f=>∃b a,f=b++a/\frL w e d v b/\zfu w e c g a|.inr cs::c,v::g,f=>∃b a,f=b++a/\(∃u,v=.agg u/\CU w e cs u.toList b)/\zfu w e c g a|_,_,_=>False
def frV(w:V)(b:Nat)(d:DV)(v:Y)(c:List Nat):Prop:=match d with|.l x=>frL w b x v c|.a cs=>∃u,v=.agg u/\CU w b cs u.toList c|.t xs=>∃u,v=.tuple u/\zfu w b xs u.toList c
def fi(P:al)(f:bu)(s:List (Sh⊕List Sh))(S:DA s->(DV->Prop)->Prop):Prop:=∀(x:DA s)(K:DV->Prop),S x K->∀(w:V)(a:Array Y),rdA w s x a.toList->Gw w->dE P f a w λe b=>∃d v,e=.returned v/\K d/\cj w.heap.size w b/\∃c,frV b w.heap.size d v c/\c.Nodup
def zmr(hp:Hp)(e:EK)(x:LV)(K:EL->Prop):Prop:=U4 hp e (.l x) K
def zhE(hp:Hp):(s:Sh)->LV->(s.T->Prop)->Prop|.int,x,K=>(match x with|.v (.int .i64 n)=>K n|_=>False)|.bool,x,K=>(match x with|.v (.bool b)=>K b|_=>False)|.bn,x,K=>zmr hp .bn x λe=>(match e with|.bn l=>K l|_=>False)|.bC,x,K=>zmr hp .bC x λe=>(match e with|.bC l=>K l|_=>False)|.bytes,x,K=>zmr hp .bytes x λe=>(match e with|.bytes l=>K l|_=>False)|.str,x,K=>(match x with|.str l=>K l|_=>False)|.strs,x,K=>zmr hp .strs x λe=>(match e with|.strs l=>K l|_=>False)
def zbB(hp:Hp):(c:List Sh)->List LV->(HL c->Prop)->Prop|[],[],K=>K ()|s::r,x::xs,K=>zhE hp s x λa=>zbB hp r xs λb=>K (a,b)|_,_,_=>False
def Ae(hp:Hp):(sig:List (Sh⊕List Sh))->List AV->(DA sig->Prop)->Prop|[],[],K=>K ()|.inl s::r,.l x::xs,K=>zhE hp s x λa=>Ae hp r xs λb=>K (a,b)|.inr c::r,.a cs::xs,K=>zbB hp c cs λa=>Ae hp r xs λb=>K (a,b)|_,_,_=>False
def zhH(hp:Hp)(d:DL)(K:LV->Hp->Prop):Prop:=match d with|.v x=>K (.v x) hp|.str l=>K (.str l) hp|.s Q0 l=>YP hp 0 (.r 0 Q0 l) λk p=>K (.s k 0) p
def Zm:Hp->List DL->(List LV->Hp->Prop)->Prop|hp,[],K=>K [] hp|hp,d::a,K=>zhH hp d λx h=>Zm h a λb p=>K (x::b) p
def zdR:Hp->List (DL⊕List DL)->(List (LV⊕List LV)->Hp->Prop)->Prop|hp,[],K=>K [] hp|hp,.inl d::a,K=>zhH hp d λx h=>zdR h a λb p=>K (.inl x::b) p|hp,.inr cs::a,K=>Zm hp cs λx h=>zdR h a λb p=>K (.inr x::b) p
def zhJ(hp:Hp)(d:DV)(K:AV->Hp->Prop):Prop:=match d with|.l x=>zhH hp x λy p=>K (.l y) p|.a cs=>Zm hp cs λb p=>K (.a b) p|.t xs=>zdR hp xs λb p=>K (.t b) p
def cz(s:List (Sh⊕List Sh))(S:DA s->(DV->Prop)->Prop):CS:={S:=λa hp K=>Ae hp s a λx=>S x λd=>zhJ hp d K,sb:=λ_=>C []}
def vEq(y z:Y)(p:Prop):Prop:=match y with|.int k a=>(match z with|.int c b=>af (k=c)<|af (a=b) p|_=>False)|.bool a=>(match z with|.bool b=>af (a=b) p|_=>False)|_=>af (y=z) p
def zfz(hp:Hp)(x:LV)(d:DL)(a:List Nat)(K:List Nat->Prop):Prop:=match d with|.v z=>(match x with|.v y=>vEq y z (K a)|_=>False)|.str z=>(match x with|.str y=>af (y=z) (K a)|_=>False)|.s Q0 l=>(match x with|.s k b=>vJ hp k b λe c=>af (SZ a k=H)<|af (bD e Q0=E)<|af (c=l)<|K (k::a)|.w k b f i n=>vJ hp k b λe c=>af (SZ a k=H)<|af (bD e Q0=E)<|af (bD f c.sz=E)<|af (i=0/\n=c.len/\0<n)<|af (c=l)<|K (k::a)|.v (.slice U 0 0)=>af (l.len=0)<|K a|_=>False)
def zdZ(hp:Hp):List LV->List DL->List Nat->(List Nat->Prop)->Prop|[],[],k,K=>K k|x::xs,d::b,k,K=>zfz hp x d k λa=>zdZ hp xs b a K|_,_,_,_=>False
def F0(hp:Hp):List (LV⊕List LV)->List (DL⊕List DL)->List Nat->(List Nat->Prop)->Prop|[],[],a,K=>K a|.inl x::xs,.inl d::b,a,K=>zfz hp x d a λk=>F0 hp xs b k K|.inr x::xs,.inr d::b,a,K=>zdZ hp x d a λk=>F0 hp xs b k K|_,_,_,_=>False
def MC(hp:Hp)(r:AV)(d:DV):Prop:=match d with|.l y=>(match r with|.l x=>zfz hp x y [] λ_=>True|_=>False)|.a b=>(match r with|.a xs=>zdZ hp xs b [] λ_=>True|_=>False)|.t b=>(match r with|.t xs=>F0 hp xs b [] λ_=>True|_=>False)
section
variable{P:al}{cx:Cx}{β:List En}{hp:Hp}{w:V}
variable{v:Y}
def Pq{s:Sh}{x:s.T}(h:rdL w s x v):bdL s x/\LC ⟨w,[]⟩ β (zmu s x) v:=by cases s with|int=>subst h;exact⟨aA,rfl,rfl⟩|bool=>subst h;exact⟨aA,rfl,rfl⟩|bn=>have⟨b,d⟩:=h;obtain⟨a,c,rfl,_⟩:=b.form;exact⟨d,rfl,b,d,λ_ _ _ m=>by cases m⟩|bC=>have⟨b,d⟩:=h;obtain⟨a,c,rfl,_⟩:=b.form;exact⟨d,rfl,b,d,λ_ _ _ m=>by cases m⟩|bytes=>have⟨b,d⟩:=h;obtain⟨a,c,rfl,_⟩:=b.form;exact⟨d,rfl,b,d,λ_ _ _ m=>by cases m⟩|str=>subst h;exact⟨aA,rfl,rfl⟩|strs=>have⟨b,d⟩:=h;obtain⟨a,c,rfl,_⟩:=b.form;exact⟨d,rfl,b,d,λ_ _ _ m=>by cases m⟩
def Xi:∀{c:List Sh}{x:HL c}{d:List Y},SC w c x d->bds c x/\gi ⟨w,[]⟩ β (zbD c x) d|[],_,[],_=>⟨aA,aA⟩|s::r,x,v::d,h=>by have a:=Pq (β:=β) h.1;have b:=Xi h.2;exact⟨⟨a.1,b.1⟩,a.2,b.2⟩|[],_,_::_,h=>h.elim|_::_,_,[],h=>h.elim
def vc:∀{c:List (Sh⊕List Sh)}{x:DA c}{d:List Y},rdA w c x d->bdA c x/\IL ⟨w,[]⟩ β (IT c x) d|[],_,[],_=>⟨aA,aA⟩|.inl s::r,x,v::d,h=>by have a:=Pq (β:=β) h.1;have b:=vc h.2;exact⟨⟨a.1,b.1⟩,a.2,b.2⟩|.inr s::r,x,v::d,h=>by have⟨u,e,f⟩:=h.1;have a:=Xi (β:=β) f;have b:=vc h.2;exact⟨⟨a.1,b.1⟩,⟨u,e,a.2⟩,b.2⟩|[],_,_::_,h=>h.elim|.inl _::_,_,[],h=>h.elim|.inr _::_,_,[],h=>h.elim
def oR:∀{s:List (Sh⊕List Sh)}{x:DA s},(IT s x).length=s.length|[],_=>rfl|.inl _::r,x=>by simp[IT,oR]|.inr _::r,x=>by simp[IT,oR]
def zlo{y z:Y}{p:Prop}(h:vEq y z p):y=z/\p:=by
 unfold vEq at h;split at h
 .split at h
  .have⟨a,b⟩:=aH.1 h;have⟨c,d⟩:=aH.1 b;subst a c;simp_all
  .cases h
 .split at h
  .have⟨a,b⟩:=aH.1 h;subst a;simp_all
  .cases h
 .exact aH.1 h
def zd0(W:ki cx β hp w){x:LV}{d:DL}{ks:List Nat}{K:List Nat->Prop}(Q:LC cx β x v)(h:zfz hp x d ks K):∃ks',K ks'/\∃T,frL w cx.w0.heap.size d v T/\(T.Nodup/\∀b∈T,∃k,k∉ks/\k∈ks'/\cN hp β k=C b)/\∀k∈ks,k∈ks':=by
 unfold zfz at h;split at h
 .split at h
  .obtain⟨rfl,f⟩:=zlo h;obtain⟨o,rfl⟩:=Q;exact⟨ks,f,[],⟨rfl,o,rfl⟩,⟨Y1,λb j=>by cases j⟩,λk m=>m⟩
  .cases h
 .split at h
  .obtain⟨rfl,f⟩:=aH.1 h;obtain⟨o,rfl⟩:=Q;exact⟨ks,f,[],⟨rfl,rfl⟩,⟨Y1,λb j=>by cases j⟩,λk m=>m⟩
  .cases h
 .split at h
  .rename_i k t;have⟨J,I,f,o⟩:=dM h;have⟨q,u⟩:=aH.1 o;have⟨y,z⟩:=aH.1 u;have⟨A,B⟩:=aH.1 z;have O:=aE y;subst O A;have⟨X,R,S,D⟩:=iT W f;have:=F3 Q R;subst this;have m:k∉ks:=λe=>by rw[AI.2 e]at q;cases q
   refine⟨_,B,v.ownBlock.toList,⟨S,D,rfl⟩,⟨?_,λb j=>⟨k,m,Y1,?_⟩⟩,λZ p=>by simp[p]⟩;.grind
   .rw[dK f R];simpa[nG]using j
  .rename_i k t M i n;have⟨J,I,f,o⟩:=dM h;have⟨q,u⟩:=aH.1 o;have⟨y,z⟩:=aH.1 u;have⟨N,F⟩:=aH.1 z;obtain⟨⟨rfl,hn,G⟩,r⟩:=aH.1 F;have⟨A,B⟩:=aH.1 r;have O:=aE y;subst O A;have⟨X,R,S,D⟩:=iT W f;obtain⟨a,c,rfl,_,s⟩:=U8 Q R;obtain⟨g,n1,c1,rfl,rfl,_,hc⟩:=s G;have P:=jo (nI S (EL.tl _));obtain rfl:c1=c:=Y0;obtain rfl:n=n1:=hn.trans P.symm;rw[Nat.zero_mul]at*;have m:k∉ks:=λe=>by rw[AI.2 e]at q;cases q
   refine⟨_,B,[g],⟨S,D,rfl⟩,⟨Y1,λb j=>⟨k,m,Y1,?_⟩⟩,λZ p=>by simp[p]⟩;rw[List.mem_singleton.1 j,dK f R];rfl
  .have⟨f,o⟩:=aH.1 h;obtain⟨_,rfl⟩:=Q;rename_i Q0 l _ _;refine⟨ks,o,[],⟨?_,Y0,rfl⟩,⟨Y1,λb j=>by cases j⟩,λk m=>m⟩;have L:=cq (by rw[l.Gd,f];simp);rw[f,L];exact World.ownsRow_nil _ _ _ _
  .cases h
def Cw(I:ki cx β hp w){i a c:List Nat}{f g:List Nat}(j:f.Nodup/\∀b∈f,∃k,k∉i/\k∈a/\cN hp β k=C b)(l:g.Nodup/\∀b∈g,∃k,k∉a/\k∈c/\cN hp β k=C b)(r:∀k∈i,k∈a)(s:∀k∈a,k∈c):(f++g).Nodup/\∀b∈f++g,∃k,k∉i/\k∈c/\cN hp β k=C b:=by
 refine⟨fw.2 ⟨j.1,l.1,λx o y m e=>?_⟩,λb h=>?_⟩
 .subst e;have⟨k,_,p,d⟩:=j.2 x o;have⟨q,k3,_,n⟩:=l.2 x m;have:=I.dis k q x d n;subst this;exact k3 p
 .grind
def zb2(I:ki cx β hp w):∀{y:List LV}{z:List DL}{A:List Y}{c:List Nat}{K:List Nat->Prop},gi cx β y A->zdZ hp y z c K->∃a,K a/\∃B,CU w cx.w0.heap.size z A B/\(B.Nodup/\∀b∈B,∃k,k∉c/\k∈a/\cN hp β k=C b)/\∀k∈c,k∈a|[],[],[],c,K,_,h=>⟨c,h,[],rfl,⟨Y1,λb m=>by cases m⟩,λk e=>e⟩|x::y,d::z,v::A,c,K,u,h=>by have⟨n,o,g,p,q,i⟩:=zd0 I u.1 h;have⟨f,r,j,s,t,l⟩:=zb2 I u.2 o;exact⟨f,r,g++j,⟨g,j,rfl,p,s⟩,Cw I q t i l,λk e=>l k (i k e)⟩|[],[],_::_,_,_,u,_=>u.elim|_::_,_::_,[],_,_,u,_=>u.elim|[],_::_,_,_,_,_,h=>h.elim|_::_,[],_,_,_,_,h=>h.elim
def zb3(I:ki cx β hp w):∀{z:List (LV⊕List LV)}{A:List (DL⊕List DL)}{B:List Y}{a:List Nat}{K:List Nat->Prop},Wd cx β z B->F0 hp z A a K->∃c,K c/\∃D,zfu w cx.w0.heap.size A B D/\(D.Nodup/\∀b∈D,∃k,k∉a/\k∈c/\cN hp β k=C b)/\∀k∈a,k∈c|[],[],[],a,K,_,h=>⟨a,h,[],rfl,⟨Y1,λb u=>by cases u⟩,λk g=>g⟩|.inl x::z,.inl d::A,v::B,a,K,y,h=>by have⟨n,o,i,p,q,j⟩:=zd0 I y.1 h;have⟨f,r,l,s,t,m⟩:=zb3 I y.2 o;exact⟨f,r,i++l,⟨i,l,rfl,p,s⟩,Cw I q t j m,λk g=>m k (j k g)⟩|.inr x::z,.inr d::A,v::B,a,K,y,h=>by have⟨F,e,G⟩:=y.1;have⟨n,o,i,p,q,j⟩:=zb2 I G h;have⟨f,r,l,s,t,m⟩:=zb3 I y.2 o;exact⟨f,r,i++l,⟨i,l,rfl,⟨F,e,p⟩,s⟩,Cw I q t j m,λk g=>m k (j k g)⟩|[],[],_::_,_,_,y,_=>y.elim|.inl _::_,.inl _::_,[],_,_,y,_=>y.elim|.inr _::_,.inr _::_,[],_,_,y,_=>y.elim|[],_::_,_,_,_,_,h=>by simp[F0]at h|.inl _::_,[],_,_,_,_,h=>by simp[F0]at h|.inr _::_,[],_,_,_,_,h=>by simp[F0]at h|.inl _::_,.inr _::_,_,_,_,_,h=>by simp[F0]at h|.inr _::_,.inl _::_,_,_,_,_,h=>by simp[F0]at h
def UX(I:ki cx β hp w){r:AV}{d:DV}(f:AC cx β r v)(h:MC hp r d):∃c,frV w cx.w0.heap.size d v c/\c.Nodup:=by
 unfold MC at h;split at h
 .split at h
  .have⟨_,_,c,a,b,_⟩:=zd0 I f h;exact⟨c,a,b.1⟩
  .cases h
 .split at h
  .have⟨u,e,g⟩:=f;have⟨_,_,c,a,b,_⟩:=zb2 I g h;exact⟨c,⟨u,e,a⟩,b.1⟩
  .cases h
 .split at h
  .have⟨u,e,g⟩:=f;have⟨_,_,c,a,b,_⟩:=zb3 I g h;exact⟨c,⟨u,e,a⟩,b.1⟩
  .cases h
def zrg{T:lJ}{G:bK}{y:Nat->Tr}{f:bu}{u:dH}{s:List (Sh⊕List Sh)}{S:DA s->(DV->Prop)->Prop}(z:eV P T)(M:P.follows .mixedOrders=E)(A:aR P G)(a:P.funcs[f]?=C u)(B:eI s.length u.ntmps=E)(h:∀(x:DA s)(K:DV->Prop),S x K->bdA s x->ta s x λc=>FX T G 0 [] y u c [] λr hp=>∃d,MC hp r d/\K d):fi P f s S:=by intro x K j w O D l;have⟨g,F⟩:=vc (β:=[]) D;have J:ki ⟨w,[]⟩ [] [] w:=⟨uO.refl _ _,rfl,λk t e h=>by simp at h,λi k b h=>by simp[cN]at h⟩;apply b9 (Cs z ⟨A,.inr ⟨l,Gm.nil⟩⟩ M a J F (by rw[oR];simpa using B) (mm.1 (h x K j g)));rintro e Q⟨v,r,L,bR,rfl,⟨d,m,n⟩,o,I,_⟩;have⟨N,p,q⟩:=UX I o m;exact⟨d,v,rfl,n,⟨I.kp.os,I.kp.tape,I.kp.output,I.kp.size,λb g=>I.kp.block b g Y1⟩,N,p,q⟩
def zh9(I:ki cx β hp w){s:Sh}{x:LV}{K:s.T->Prop}(e:LC cx β x v)(h:zhE hp s x K):∃y,K y/\rdL w s y v:=by
 cases s<;>simp[zhE]at h;case int|bool|str=>
  split at h;.exact⟨_,h,e.2⟩
  .cases h
 all_goals
  have⟨l,b,c,d⟩:=Js (a:=.l x) I e h;split at b;.exact⟨_,b,c,d⟩
  .cases b
def zdN(I:ki cx β hp w):∀{i:List Sh}{j:List LV}{k:List Y}{K:HL i->Prop},gi cx β j k->zbB hp i j K->∃y,K y/\SC w i y k|[],[],[],K,_,h=>⟨(),h,aA⟩|s::r,x::j,v::k,K,g,h=>by have⟨a,c,d⟩:=zh9 I g.1 h;have⟨b,e,f⟩:=zdN I g.2 c;exact⟨(a,b),e,d,f⟩|[],[],_::_,_,g,_=>g.elim|_::_,_::_,[],_,g,_=>g.elim|[],_::_,_,_,_,h=>h.elim|_::_,[],_,_,_,h=>h.elim
def Lf(I:ki cx β hp w):∀{k:List (Sh⊕List Sh)}{m:List AV}{n:List Y}{K:DA k->Prop},IL cx β m n->Ae hp k m K->∃y,K y/\rdA w k y n|[],[],[],K,_,h=>⟨(),h,aA⟩|.inl s::r,.l x::m,v::n,K,i,h=>by have⟨a,c,d⟩:=zh9 I i.1 h;have⟨b,f,g⟩:=Lf I i.2 c;exact⟨(a,b),f,d,g⟩|.inr s::r,.a x::m,v::n,K,i,h=>by have⟨u,e,o⟩:=i.1;have⟨a,c,d⟩:=zdN I o h;have⟨b,f,g⟩:=Lf I i.2 c;exact⟨(a,b),f,⟨u,e,d⟩,g⟩|[],[],_::_,_,i,_=>i.elim|[],_::_,_,_,_,h=>by simp[Ae]at h|.inl _::_,[],_,_,_,h=>by simp[Ae]at h|.inr _::_,[],_,_,_,h=>by simp[Ae]at h|.inl _::_,.a _::_,_,_,_,h=>by simp[Ae]at h|.inl _::_,.t _::_,_,_,_,h=>by simp[Ae]at h|.inl _::_,.j::_,_,_,_,h=>by simp[Ae]at h|.inr _::_,.l _::_,_,_,_,h=>by simp[Ae]at h|.inr _::_,.t _::_,_,_,_,h=>by simp[Ae]at h|.inr _::_,.j::_,_,_,_,h=>by simp[Ae]at h|.inl _::_,.l _::_,[],_,i,_=>i.elim|.inr _::_,.a _::_,[],_,i,_=>i.elim
structure Oy(cx:Cx)(B:Nat)(w':V)(β:List En)(hp:Hp)(Q1:List Nat)(bR:List En)(dF:Hp):Prop where
 mI:ki cx bR dF w'
 len:hp.length<=dF.length
 pre:∀k,k<hp.length->dF[k]?=hp[k]?/\bR[k]?=β[k]?
 own:∀k b,cN dF bR k=C b->cN hp β k=C b\/(B<=b/\b∈Q1)
def zes(β:List En)(e:En):uZ β (β++[e]):=by intro k e0 h;have s:(β++[e])[k]?=C e0:=Y8;cases e0 with|b n=>exact s|r v a=>grind|x=>trivial
def znv{k b:Nat}{x:HB}{e:En}(l:β.length=hp.length)(h:cN (hp++[x]) (β++[e]) k=C b):cN hp β k=C b\/(k=hp.length/\nG x e=C b):=by
 have⟨t,i,a,c,f⟩:=ix h;by_cases g:k<hp.length
 .rw[cg g]at a;rw[cg Y0]at c;exact .inl (by rw[dK a c];exact f)
 .grind
def Oy.add{B:Nat}{y:V}{Q1:List Nat}{lL:List En}{p:Hp}(f:∀k b,cN hp β k=C b->b<B)(h:Oy cx B y β hp Q1 lL p)(g:cx.w0.heap.size<=B){Q0:ah}{l:EL}(z:y.ownsRow B Q0 l.sz v l.len l.di)(s:l.len<=lH)(u:∀b∈v.ownBlock.toList,b∉Q1):Oy cx B y β hp (Q1++v.ownBlock.toList) (lL++[.r v 0]) (p++[.r 0 Q0 l]):=by
 have m:=h.mI.len;have new:∀k b,cN (p++[.r 0 Q0 l]) (lL++[.r v 0]) k=C b->cN p lL k=C b\/(k=p.length/\v.ownBlock=C b):=λk b d=>znv m d;have A:∀k b,cN p lL k=C b->v.ownBlock=C b->False:=λk b a c=>by
  have d:=z.lt b c;rcases h.own k b a with n|n;.grind
  .simp_all
 refine⟨⟨h.mI.kp,by simp[m],λk t e x w=>?_,λi j b x w=>?_⟩,by have:=h.len;simp;omega,λk o=>?_,λk b d=>?_⟩
 .by_cases o:k<p.length;.rw[cg o]at x;rw[cg Y0]at w;exact(h.mI.Ds k t e x w).s4 (zes _ _) λ_ _=>rfl
  .have q:k=p.length:=by grind
   subst q;simp[sO,ay]at x;rw[<-m]at w;simp[sO,ay]at w;subst x w;exact⟨rfl,CE z g,s⟩
 .rcases new i b x with a|⟨rfl,a⟩<;>rcases new j b w with c|⟨rfl,c⟩;.exact h.mI.dis i j b a c
  .grind
  .grind
  .rfl
 .have⟨a,c⟩:=h.pre k o;have:=h.len;grind
 .rcases new k b d with a|⟨rfl,a⟩;.exact(h.own k b a).imp id λc=>⟨c.1,by simp[c.2]⟩
  .exact .inr ⟨(z.lt b a).1,by simp[a]⟩
def zdS{B:Nat}{w:V}(e:∀k b,cN hp β k=C b->b<B)(f:cx.w0.heap.size<=B){Q1:List Nat}{lL:List En}{p:Hp}(h:Oy cx B w β hp Q1 lL p){d:DL}{q:List Nat}(g:frL w B d v q)(m:∀b∈q,b∉Q1){K:LV->Hp->Prop}(i:zhH p d K):∃x a sP,K x a/\LC cx sP x v/\Oy cx B w β hp (Q1++q) sP a/\uZ lL sP:=by
 cases d with|v y=>obtain⟨rfl,c,rfl⟩:=g;exact⟨_,p,lL,i,⟨c,rfl⟩,Y7,uZ.refl _⟩|str y=>obtain⟨rfl,rfl⟩:=g;exact⟨_,p,lL,i,⟨rfl,rfl⟩,Y7,uZ.refl _⟩|s Q0 l=>
  obtain⟨c,n,rfl⟩:=g;have j:=Pm.1 i;rw[ew]at j;have o:v.oneCell'=E:=by obtain⟨_,_,rfl⟩:=sS c;rfl
  exact⟨_,_,lL++[.r v 0],j,⟨o,v,0,by rw[<-h.mI.len];simp,ao _,λ_=>rfl⟩,h.add e f c n m,zes _ _⟩
def zbY{B:Nat}{J:V}(l:∀k b,cN hp β k=C b->b<B)(c:cx.w0.heap.size<=B):∀{L:List DL}{M:List Y}{G Q1:List Nat}{lL:List En}{p:Hp}{K:List LV->Hp->Prop},Oy cx B J β hp Q1 lL p->CU J B L M G->G.Nodup->(∀b∈G,b∉Q1)->Zm p L K->∃I a sP,K I a/\gi cx sP I M/\Oy cx B J β hp (Q1++G) sP a/\uZ lL sP|[],[],G,Q1,lL,p,K,h,f,_,_,j=>by subst f;exact⟨[],p,lL,j,aA,Y7,uZ.refl _⟩|d::L,v::M,G,Q1,lL,p,K,h,f,N,n,j=>by obtain⟨D,Q0,rfl,o,q⟩:=f;have⟨O,r,s⟩:=fw.1 N;obtain⟨x,a,sP,t,u,w,y⟩:=zdS l c h o (λb i=>n b (by simp[i])) j;obtain⟨I,m,β3,z,A,F,g⟩:=zbY l c w q r (λb i e=>by grind) t;exact⟨x::I,m,β3,z,⟨u.ext g,A⟩,Y7,y.trans g⟩|[],_::_,_,_,_,_,_,_,f,_,_,_=>f.elim|_::_,[],_,_,_,_,_,_,f,_,_,_=>f.elim
def zbZ{B:Nat}{M:V}(l:∀k b,cN hp β k=C b->b<B)(c:cx.w0.heap.size<=B):∀{J:List (DL⊕List DL)}{L:List Y}{G Q1:List Nat}{lL:List En}{p:Hp}{K:List (LV⊕List LV)->Hp->Prop},Oy cx B M β hp Q1 lL p->zfu M B J L G->G.Nodup->(∀b∈G,b∉Q1)->zdR p J K->∃I g sP,K I g/\Wd cx sP I L/\Oy cx B M β hp (Q1++G) sP g/\uZ lL sP|[],[],G,Q1,lL,p,K,h,f,_,_,m=>by subst f;exact⟨[],p,lL,m,aA,Y7,uZ.refl _⟩|.inl d::J,v::L,G,Q1,lL,p,K,h,f,N,n,m=>by obtain⟨D,Q0,rfl,o,q⟩:=f;have⟨O,r,s⟩:=fw.1 N;obtain⟨x,g,sP,t,u,w,y⟩:=zdS l c h o (λb i=>n b (by simp[i])) m;obtain⟨I,j,β3,z,A,F,a⟩:=zbZ l c w q r (λb i e=>by grind) t;exact⟨.inl x::I,j,β3,z,⟨u.ext a,A⟩,Y7,y.trans a⟩|.inr d::J,v::L,G,Q1,lL,p,K,h,f,N,n,m=>by obtain⟨D,Q0,rfl,⟨P,e,o⟩,q⟩:=f;have⟨O,r,s⟩:=fw.1 N;obtain⟨x,g,sP,t,u,w,y⟩:=zbY l c h o O (λb i=>n b (by simp[i])) m;obtain⟨I,j,β3,z,A,F,a⟩:=zbZ l c w q r (λb i e=>by grind) t;exact⟨.inr x::I,j,β3,z,⟨⟨P,e,u.ext a⟩,A⟩,Y7,y.trans a⟩|[],_::_,_,_,_,_,_,_,f,_,_,_=>f.elim|.inl _::_,[],_,_,_,_,_,_,f,_,_,_=>f.elim|.inr _::_,[],_,_,_,_,_,_,f,_,_,_=>f.elim
def zoM{B:Nat}{w:V}(c:∀k b,cN hp β k=C b->b<B)(f:cx.w0.heap.size<=B)(I:ki cx β hp w){d:DV}{z:List Nat}(g:frV w B d v z)(A:z.Nodup){K:AV->Hp->Prop}(o:zhJ hp d K):∃r s bR Q1,K r s/\AC cx bR r v/\Oy cx B w β hp Q1 bR s/\uZ β bR:=by have q:Oy cx B w β hp [] β hp:=⟨I,ao _,λ_ _=>⟨rfl,rfl⟩,λ_ _ h=>.inl h⟩;cases d with|l x=>obtain⟨y,p,sP,i,j,m,n⟩:=zdS (K:=λy s=>K (.l y) s) c f q g (λ_ _ h=>by cases h) o;exact⟨.l y,p,sP,_,i,j,m,n⟩|a cs=>have⟨u,e,g⟩:=g;obtain⟨y,p,sP,i,j,m,n⟩:=zbY c f q g A (λ_ _ h=>by cases h) o;exact⟨.a y,p,sP,_,i,⟨u,e,j⟩,m,n⟩|t cs=>have⟨u,e,g⟩:=g;obtain⟨y,p,sP,i,j,m,n⟩:=zbZ c f q g A (λ_ _ h=>by cases h) o;exact⟨.t y,p,sP,_,i,⟨u,e,j⟩,m,n⟩
def zdU{w':V}(I:ki cx β hp w)(a:cj w.heap.size w w'){d:DV}{j:List Nat}(f:frV w' w.heap.size d v j)(n:j.Nodup){K:AV->Hp->Prop}(c:zhJ hp d K){S:Nat->Prop}:∃r p bR,K r p/\AC cx bR r v/\kF cx β hp w S bR p w':=by obtain⟨r,p,bR,Q1,g,i,h,x⟩:=zoM (λk b h=>(I.lt h).1) I.kp.size (I.zfB a) f n c;refine⟨r,p,bR,g,i,h.mI,x,λk b a=>(h.own k b a).imp id And.left,a.size,h.len,λk c _=>?_,λb e _=>a.block b e⟩;unfold cN;rw[(h.pre k c).1,(h.pre k c).2]
def Ze{f:bu}{s:List (Sh⊕List Sh)}{S:DA s->(DV->Prop)->Prop}(a:(P.funcs[f]?).map (λq=>(q.name== "runtime.NumGoroutine",q.body.isNone))=C (H,H))(h:fi P f s S):bF P f (cz s S):=by refine⟨a,λy hp K b cx β w t I gl u=>?_⟩;have⟨x,c,g⟩:=Lf I u b;apply b9 (h x _ c w t g (gl.1.s4 gl.2 I.kp));rintro e z⟨d,v,rfl,i,j,A,k,l⟩;obtain⟨r,p,bR,m,n,o⟩:=zdU I j k l i;exact⟨v,r,p,bR,rfl,m,n,o⟩
end
end Ab
open Go.RowKit
namespace Ab
def YW:List (Sh⊕List Sh)->Bool|[]=>E|.inl .int::r=>YW r|.inl .bool::r=>YW r|.inr s::r=>go s&&YW r|_=>H where go:List Sh->Bool|[]=>true|.int::r=>go r|.bool::r=>go r|_=>false
def zoq(T:ah)(w:V)(r:Nat)(v:Y)(l:List UInt8)(p:Int):Prop:=w.heap[r]?=C (.cells #[v,.int .i64 p] T (0,0))/\rdE w (.bytes l) v/\((EL.bytes l).len≠0->v.ownBlock≠C r)
def zhw(P:al)(f:bu)(T:ah)(s:List (Sh⊕List Sh))(S:Int->DA s->(DV->Int->Prop)->Prop):Prop:=∀(p:Int)(x:DA s)(K:DV->Int->Prop),S p x K->∀(w:V)(r:Nat)(v:Y)(l:List UInt8)(g:Array Y),zoq T w r v l p->rdA w s x g.toList->Gw w->dE P f (#[.pointer (C ⟨r,0,U⟩)]++g) w λe c=>∃d u a,e=.returned u/\K d a/\uO (λb=>b=r) w c/\c.heap[r]?=C (.cells #[v,.int .i64 a] T (0,0))/\∃h,frV c w.heap.size d u h/\h.Nodup
def zt4(c:Y)(l:List UInt8)(d:ah)(hp:Hp)(a:Int)(q:Prop):Prop:=py hp 0 λh=>match h with|.b cs T=>(match cs with|[x,.v (.int .i64 p)]=>af (x=.fx c (.bytes l))<|af (p=a)<|af (bD T d=E) q|_=>False)|_=>False
def zqO(c:LV)(K:Prop):Prop:=match c with|.fx _ (.bytes _)=>K|.f (.bytes _)=>K|_=>False
def iR(g:ah)(s:List (Sh⊕List Sh))(S:Int→DA s→(DV→Int→Prop)→Prop):CS:=
  { S:=fun e hp K=>match e with |.l (.p k 0)::r=>py hp k fun h=>(match h with |.b cs T=>(match cs with |[c,.v (.int .i64 p)]=>zqO c<|af (bD T g=E)<|Ae hp s r fun x=>S p x fun d a=>uV hp k (.b [c,.v (.int .i64 a)] T) fun f=>zhJ f d K|_=>False)|_=>False)|_=>False
    sb:=fun e=>match e with|.l (.p k _)::_=>C [k]|_=>C []}
section
variable{P:al}{cx:Cx}{β:List En}{hp:Hp}{w:V}
def Xz:∀{a:List Sh}{x:HL a}{b:List Y},YW.go a=E->SC w a x b->gi cx β (zbD a x) b|[],_,[],_,_=>trivial|.int::r,x,v::b,s,h=>by have e:=h.1;subst e;exact⟨⟨rfl,rfl⟩,Xz s h.2⟩|.bool::r,x,v::b,s,h=>by have e:=h.1;subst e;exact⟨⟨rfl,rfl⟩,Xz s h.2⟩|.bn::_,_,_,s,_=>by cases s|.bC::_,_,_,s,_=>by cases s|.bytes::_,_,_,s,_=>by cases s|[],_,_::_,_,h=>h.elim|.int::_,_,[],_,h=>h.elim|.bool::_,_,[],_,h=>h.elim
def W7:∀{a:List (Sh⊕List Sh)}{x:DA a}{b:List Y},YW a=E->rdA w a x b->IL cx β (IT a x) b|[],_,[],_,_=>trivial|.inl .int::r,x,v::b,s,h=>by have e:=h.1;subst e;exact⟨⟨rfl,rfl⟩,W7 s h.2⟩|.inl .bool::r,x,v::b,s,h=>by have e:=h.1;subst e;exact⟨⟨rfl,rfl⟩,W7 s h.2⟩|.inr d::r,x,v::b,s,h=>by simp[YW,aj]at s;have⟨u,e,c⟩:=h.1;exact⟨⟨u,e,Xz s.1 c⟩,W7 s.2 h.2⟩|.inl .bn::_,_,_,s,_=>by cases s|.inl .bC::_,_,_,s,_=>by cases s|.inl .bytes::_,_,_,s,_=>by cases s|[],_,_::_,_,h=>h.elim|.inl .int::_,_,[],_,h=>h.elim|.inl .bool::_,_,[],_,h=>h.elim|.inr _::_,_,[],_,h=>h.elim
variable{f:bu}
def zmP{T:lJ}{G:bK}{TR:Nat->Tr}{T0:ah}{fn:dH}{sig:List (Sh⊕List Sh)}{S:Int->DA sig->(DV->Int->Prop)->Prop}(hT:eV P T)(hM:P.follows .mixedOrders=E)(hG:aR P G)(y:P.funcs[f]?=C fn)(hn:eI (sig.length+1) fn.ntmps=E)(hs:YW sig=E)(h:∀(v0:Y)(l:List UInt8)(p:Int)(x:DA sig)(K:DV->Int->Prop),l.length<=lH->S p x K->ta sig x λz=>FX T G 1 [0] TR fn (.l (.p 0 0)::z) [.b [.fx v0 (.bytes l),.v (.int .i64 p)] T0] λr hp=>∃d A,zt4 v0 l T0 hp A (MC hp r d)/\K d A):zhw P f T0 sig S:=by
 intro p x K N w r v l vs⟨j,g,B⟩hr J;have q:v.oneCell'=E:=by obtain⟨a,c,rfl,_⟩:=g.1.form;rfl
 have O:LC ⟨w,[r]⟩ [.b r] (.fx v (.bytes l)) v:=⟨q,rfl,g.1,g.2,λQ b j L=>by simp_all⟩;have hI:ki ⟨w,[r]⟩ [.b r] [.b [.fx v (.bytes l),.v (.int .i64 p)] T0] w:=by
  refine⟨uO.refl _ _,rfl,λk t e m o=>?_,λi k b m o=>?_⟩;.cases k with|succ k=>simp at m|zero=>simp[bz,ay]at m o;subst m o;exact⟨.inr Y1,_,j,O,⟨rfl,rfl⟩,aA⟩
  .have⟨_,_,D,_,_⟩:=ix m;have⟨_,_,Q0,_,_⟩:=ix o;have:=(bQ.1 D).1;have:=(bQ.1 Q0).1;simp at*;omega
 have n:IL ⟨w,[r]⟩ [.b r] (.l (.p 0 0)::IT sig x) (#[kY (C ⟨r,0,U⟩)]++vs).toList:=by have:(#[kY (C ⟨r,0,U⟩)]++vs).toList=kY (C ⟨r,0,U⟩)::vs.toList:=Y1;rw[this];exact⟨⟨rfl,r,rfl,rfl⟩,W7 hs hr⟩
 apply b9 (Cs hT ⟨hG,.inr ⟨J,Gm.rd J j Y1⟩⟩ hM y hI n (by simp[oR];simpa using hn) (mm.1 (h v l p x K g.2 N)));rintro e w'⟨u,Z,dF,bR,rfl,⟨d,A,m,o⟩,R,I,Q1⟩;have⟨t,g1,g2⟩:=dX.1 m;split at g2
 .rename_i cs T1;split at g2
  .rename_i x1 M;have⟨g3,g4⟩:=aH.1 g2;have⟨g5,g6⟩:=aH.1 g4;have⟨g7,g8⟩:=aH.1 g6;have F:=aE g7;subst g3 g5 F;have⟨bs,Q2,W⟩:=UX I R g8;have ho:=I.Ds 0 _ _ g1 (Q1.ext 0 (.b r) Y1 rfl);have⟨_,us,X,s⟩:=ho;have Q3:us=#[v,.int .i64 M]:=by apply bj.1;cases hu:us.toList with|nil=>rw[hu]at s;cases s|cons a rest=>rw[hu]at s;cases rest with|nil=>cases s.2|cons b rest=>have⟨⟨_,D,_⟩,⟨_,Q0⟩,Q4⟩:=s;cases rest with|nil=>rw[D,Q0]|cons _ _=>cases Q4
   subst Q3;refine⟨d,u,M,rfl,o,?_,X,bs,Q2,W⟩;exact I.kp.mono λb _ j=>Y7
  .cases g2
 .cases g2
def zgb{c:LV}{K:Prop}(h:zqO c K):K/\∀v,LC cx β c v->∃l,FZ cx v (.bytes l):=by
 unfold zqO at h;split at h;.exact⟨h,λv a=>⟨_,a.2.2⟩⟩
 .exact⟨h,λv a=>⟨_,a.2⟩⟩
 .cases h
def ziQ{T0:ah}{sig:List (Sh⊕List Sh)}{S:Int->DA sig->(DV->Int->Prop)->Prop}(L:(P.funcs[f]?).map (λfn=>(fn.name== "runtime.NumGoroutine",fn.body.isNone))=C (H,H))(h:zhw P f T0 sig S):bF P f (iR T0 sig S):=by
 refine⟨L,λxs hp K I cx β w vs hI gl ha=>?_⟩;simp only[iR]at I;split at I
 .rename_i k r;have⟨t,g1,g2⟩:=dX.1 I;split at g2
  .rename_i cs T;split at g2
   .rename_i q p;have⟨M,N⟩:=zgb (cx:=cx) (β:=β) g2;have⟨g3,g4⟩:=aH.1 M;have Q:=aE g3;subst Q;cases s:vs.toList with|nil=>rw[s]at ha;cases ha|cons a0 rest=>
    rw[s]at ha;obtain⟨⟨_,n,hn,rfl⟩,ha⟩:=ha;have⟨m,us,c,hc⟩:=hI.Ds k _ _ g1 hn;have R:∃v,us=#[v,.int .i64 p]/\LC cx β q v:=by cases hu:us.toList with|nil=>rw[hu]at hc;cases hc|cons a rest=>rw[hu]at hc;cases rest with|nil=>cases hc.2|cons b rest=>have⟨o1,⟨_,e3⟩,q3⟩:=hc;cases rest with|nil=>grind|cons _ _=>cases q3
    obtain⟨v,rfl,A⟩:=R;have⟨l,j⟩:=N v A;have⟨x,h1,h2⟩:=Lf hI ha g4;have B:zoq T w n v l p:=by
     refine⟨c,⟨j.sl hI,j.2.1⟩,λQ3 e=>?_⟩;have Q4:n<cx.w0.heap.size:=by
      rcases j.1.2 with⟨Q2,_⟩|⟨g',Z,zmq,cur,T',Q2,_,e1,_⟩;.cases Q3 Q2
      .rw[Q2]at e;simp[l9,ay]at e;subst e;grind
     rcases m with J|J;.omega
     .exact j.2.2 Q3 n e J
    have g:=h p x _ h1 w n v l rest.toArray B Y0 (gl.1.s4 gl.2 hI.kp);have y:(#[kY (C ⟨n,0,U⟩)]++rest.toArray)=vs:=by grind
    rw[y]at g;apply b9 g;rintro e w'⟨d,u,z,rfl,J,ht,W,bs,h4,h5⟩;have⟨D,h6⟩:=hX.1 J;have o:cN hp β k=C n:=by rw[dK g1 hn];rfl
    have O:kF cx β hp w (ST (C [k])) β (hp.set k (.b [q,.v (.int .i64 z)] T)) w':=by refine kF.upd (h':=.b [q,.v (.int .i64 z)] T) hI (by simp[ST]) (ht.mono λb _ e=>by rw[o,e]) (λi hi=>⟨bW (cA hi),rfl⟩) (by simp[D]) hn (by simp[hI.len]) Y1 (uZ.refl _) ⟨m,_,W,A,⟨rfl,rfl⟩,aA⟩ (λb c=>.inl (by rw[o];exact c))
    have Q4:∀i b,cN (hp.set k (.b [q,.v (.int .i64 z)] T)) β i=C b->b<w.heap.size:=by
     intro i b c;by_cases Q0:i=k
     .subst Q0;rw[dK (x:=.b [q,.v (.int .i64 z)] T) (by simp[D]) hn]at c;have:C n=C b:=c;simp[ay]at this;subst this;grind
     .have:cN hp β i=C b:=by unfold cN at c⊢;rw[bW (cA Q0)]at c;exact c
      exact(hI.lt this).1
    obtain⟨ru,F,sP,Q1,i1,i2,i3,i4⟩:=zoM Q4 hI.kp.size O.mI h4 h5 h6;refine⟨u,ru,F,sP,rfl,i1,i2,⟨i3.mI,i4,λi b c=>?_,O.size,by have:=i3.len;simp at this;exact this,λi hi X=>?_,O.sb⟩⟩
    .rcases i3.own i b c with G|G;.exact O.om i b G
     .omega
    .have Q5:i<(hp.set k (.b [q,.v (.int .i64 z)] T)).length:=Y7;have G:cN F sP i=cN (hp.set k (.b [q,.v (.int .i64 z)] T)) β i:=by unfold cN;rw[(i3.pre i Q5).1,(i3.pre i Q5).2]
     rw[G];exact O.own i hi X
   .cases g2
  .cases g2
 .cases I
def csI(T:lJ)(G:bK)(a:Nat->Tr)(f:dH):CS:={S:=λx hp K=>af (eI x.length f.ntmps=E)<|CY (IV hp) λn=>FX T G n [] a f x hp K,sb:=λ_=>U}
def zrh{T:lJ}{G:bK}{t:Nat->Tr}{p:dH}(u:eV P T)(M:P.follows .mixedOrders=E)(x:aR P G)(a:P.funcs[f]?=C p)(o:(P.funcs[f]?).map (λp=>(p.name== "runtime.NumGoroutine",p.body.isNone))=C (H,H)):bF P f (csI T G t p):=by refine⟨o,λz hp K S cx β w A I gl y=>?_⟩;have⟨i,j⟩:=aH.1 S;have d:=lY.1 j;rw[vd]at d;apply b9 (Cs u ⟨x,.inr gl⟩ M a I y Y7 d);rintro e B⟨v,r,q,bR,rfl,l,m,n,h⟩;refine⟨v,r,q,bR,rfl,l,m,⟨n,λk e g=>?_,λk b c=>(h.om k b c).imp And.right id,h.size,h.len,λk _ s=>(s trivial).elim,λb c s=>h.sb b c λk=>s k trivial⟩⟩;exact h.ext k e (by rw[<-I.len];grind) g
def ziE(P:al):lJ->Prop|[]=>True|(t,i)::r=>IQ P t i/\ziE P r
def VY:∀{T:lJ},ziE P T->eV P T
 |[],_,t,i,h=>by simp[tyL]at h|(a,b)::r,h,t,i,c=>by
  simp[tyL]at c;split at c
  .rename_i e;subst e;obtain rfl:=fO c;exact h.1
  .exact VY h.2 t i c
def ziD(P:al):bK->Prop|[]=>True|(f,c)::r=>bF P f c/\ziD P r
def an:∀{G:bK},ziD P G->aR P G
 |[],_,f,c,h=>by cases h|(b,a)::r,h,f,c,m=>by
  rcases bq.1 m with e|e
  .obtain⟨rfl,rfl⟩:=Prod.mk.inj e;exact h.1
  .exact an h.2 f c e
def FV(w:V)(v:Y):Prop:=∃a n c,v=.slice a n c/\(n<=1048576->∃l:List UInt8,rdE w (.bytes l) v)
end
end Ab
open Go.RowKit
namespace Ab
def zuh:{f:lJ->bK->List bU->List bU->Fr->Hp->(Fr->Hp->Prop)->Prop//f=@Wu}:=by refine⟨?f,?h⟩;rotate_left;.delta Wu Wu._f;exact rfl
def zqT:=zuh.1
def zeK:@zqT=@Wu:=zuh.2
def zoR:{f:lJ->bK->List bU->Nat×List Nat->Nat->Tr->Fr->Hp->(Fr->Hp->Prop)->Prop//f=@OW}:=by refine⟨?f,?h⟩;rotate_left;.delta OW OW._f;exact rfl
def zuQ:=zoR.1
def zkn:@zuQ=@OW:=zoR.2
def zpk:{f:lJ->bK->List bU->Nat×List Nat->Nat->Tr->Fr->Hp->(Fr->Hp->Prop)->Prop//f=@wY}:=by refine⟨?f,?h⟩;rotate_left;.delta wY wY._f;rw[<-zkn]
def zvx:=zpk.1
def zlj:@zvx=@wY:=zpk.2
def zoC:{f:lJ->bK->Nat->List Nat->(Nat->Tr)->Code->Go1//f=@exec}:=by refine⟨?f,?h⟩;rotate_left;.delta exec exec._f;rw[<-zlj,<-zeK]
def Ah:=zoC.1
def Po:@Ah=@exec:=zoC.2
def s8(T:lJ)(G:bK)(N:Nat)(W:List Nat)(b:Nat->Tr)(a:dH)(v:List AV)(hp:Hp)(K:AV->Hp->Prop):Prop:=match a.body with|none=>False|some c=>Ah T G N W b c (CZ a.ntmps v) hp λe f p=>(match e with|.n=>Ww T f p a.results.toList λr=>K r p|.r=>Ww T f p a.results.toList λr=>K r p|.x _=>False)
def qS:@s8=@FX:=by funext T G N W a fn v hp K;unfold s8 FX;rw[Po];rfl
variable{α:Type _}
def la{a b:List α}:(a++b).length=a.length+b.length:=Y7
def ln:([]:List α).length=0:=rfl
def lc{a:α}{l:List α}:(a::l).length=l.length+1:=rfl
variable{n:Nat}
def ld{l:List α}:(l.drop n).length=l.length-n:=List.length_drop
def lt{l:List α}:(l.take n).length=min n l.length:=da
def ls{a:α}{l:List α}:(l.set n a).length=l.length:=List.length_set
def lna{l:List α}:[]++l=l:=rfl
variable{b:Bool}
def bnF(h:b=H)(k:b=E):False:=Y7
def bnT(h:b=E)(k:b=H):False:=Y7
variable{p:Prop}
def W9{q:Prop}(h:af p q):p:=by cases h;assumption
def lq{q:Prop}(h:af p q):q:=by cases h;assumption
def mR{q:Prop}(h:dS p q):q:=by cases h;assumption
def qO(h:Ab.cy p):p:=by cases h;assumption
variable{t:Bool}
def zy{q:Prop}(h:Br t p q)(e:t=E):p:=by cases h with|mk a b=>exact a e
def uR{q:Prop}(h:Br t p q)(e:t=H):q:=by cases h with|mk a b=>exact b e
def brS:(∀(p:Prop)[Decidable p],(decide p=E)=p)/\(∀(p:Prop)[Decidable p],(decide p=H)=¬p)/\(∀b:Bool,((!b)=E)=(b=H))/\(∀b:Bool,((!b)=H)=(b=E))/\(∀a b:Bool,((!a)=b)=(a=!b))/\((!E)=H)/\((!H)=E)/\(∀a b:Bool,((a&&b)=E)=(a=E/\b=E))/\(∀a b:Bool,((a&&b)=H)=(a=H\/b=H))/\(∀a b:Bool,((a||b)=E)=(a=E\/b=E))/\(∀a b:Bool,((a||b)=H)=(a=H/\b=H))/\((¬True)=False)/\(∀p:Prop,(p/\p)=p)/\((E=H)=False)/\((H=E)=False)/\((¬False)=True):=by simp_all
def gQ:(∀p:Prop,(p/\p)=p)/\((!E)=H)/\((!H)=E)/\(∀b:Bool,(b&&E)=b)/\(∀b:Bool,(E&&b)=b)/\(∀b:Bool,(b||false)=b)/\(∀b:Bool,(H||b)=b)/\((¬True)=False)/\((¬False)=True)/\(∀[Decidable True],decide True=E)/\(∀[Decidable False],decide False=H)/\(∀n:Int,(n==n)=E)/\(∀n:Bool,(n==n)=E):=by simp_all
def gS(h:p:=by(first|omega|with_reducible assumption|kernel_rfl|exact rfl|(with_reducible first|omega|exact WB Y0|(and_intros<;>first|trivial|omega|exact WB Y0))|(dsimp only[EL.len];with_reducible first|omega|exact WB Y0|(and_intros<;>first|trivial|omega|exact WB Y0))|with_reducible exact zyV Y0|with_reducible exact WB ⟨Y5,Y5⟩|exact⟨rfl,aA⟩|exact⟨rfl,rfl,aA⟩|exact⟨⟨rfl,rfl,rfl,rfl⟩,aA⟩|(show(_:Int)<=_/\(_:Int)<=_;omega)|(show(_:Int)<=_;omega)|(simp only[EL.len,EL.sz,EL.take,EL.drop,lH,la,ln,lc,ld,lt,ls,lna];with_reducible first|omega|exact WB Y0|(and_intros<;>first|trivial|omega|exact WB Y0))|(simp only[EL.len,EL.sz,EL.take,EL.drop,lH,la,ln,lc,ld,lt,ls,lna]at*;with_reducible first|omega|exact WB Y0|(and_intros<;>first|trivial|omega|exact WB Y0)))):p:=h
def gR(h:p:=by first|exact aA|with_reducible exact rfl|exact Eq.refl E|exact Eq.refl H):p:=h
def gV(h:p:=by first|kernel_rfl|exact rfl|exact⟨rfl,aA⟩|exactλ_ h=>h|exact⟨⟨rfl,rfl,rfl,rfl⟩,aA⟩|exact⟨⟨rfl,rfl⟩,rfl,rfl⟩|exact⟨rfl,rfl,aA⟩):p:=h
def gA(h:p:=by first|exact Eq.refl E|exact Eq.refl H|with_reducible assumption):p:=h
@[reducible]def zy0(b:Bool)(p q:Prop):Prop:=match b with|true=>p|false=>q
def gU{q:Prop}(h:t=b)(k:zy0 b p q):Br t p q:=by
 subst h;cases t;.exact brF k
 .exact brT k
def eT:Nat->Tr:=λ_=>.nil
def gl{α:Type}(l:List α)(h:l.length<=1099511627776):l.length<=1099511627776:=h
def gB{q h1 h2:Prop}(a:t=E->h1->p)(b:t=H->h2->q)(c:t=E->h1:=by intro h;first|((try simp only[brS]at h);(try dsimp only[EL.len]at h);exact h)|exact(show False by simp only[brS]at h)|exact h)(d:t=H->h2:=by intro h;first|((try simp only[brS]at h);(try dsimp only[EL.len]at h);exact h)|exact(show False by simp only[brS]at h)|exact h):Br t p q:=.mk (λe=>a e (c e)) (λe=>b e (d e))
def gI{D:Type}{M K:D->Prop}{d:D}(hK:K d)(h:M d):∃d,M d/\K d:=⟨d,h,hK⟩
def gF{D:Type}{M K:D->Prop}{d:D}(hK:K d)(h:M d:=by(repeat' first|exact gR|refine U0 ?_ ?_);all_goals(first|exact rfl|(simp;done))):∃d,M d/\K d:=⟨d,h,hK⟩
def bG{r:Prop}(f:False:=by first|omega|exact bnF Y6 Y6|exact bnT Y6 Y6):r:=f.elim
def zbE(h:p:=by intro K hF;(conv at hF=>whnf);(repeat((first|(have s:=W9 hF;replace hF:=lq hF)|(replace hF:=mR hF)|((repeat((conv=>whnf);(refine U0 ?_ ?_;exact gS)));(conv=>whnf);(refineλ(y:Int)(a:0<=y)b=>?_);replace hF:=hF y a b));(conv at hF=>whnf)));replace hF:=qO hF;(repeat'((conv=>whnf);first|refine U0 ?_ ?_;exact gS|(refine U1 ?_;exact hF)|refine U1 ?_|apply gU;exact gA|refine gB ?_ ?_<;>intro c h<;>try exact bG|refineλ(y:Int)(a:0<=y)b=>?_));done):p:=h
def wP(h:p:=by intro K hF;(conv at hF=>whnf);(repeat((first|(have s:=W9 hF;replace hF:=lq hF)|(replace hF:=mR hF)|((repeat((conv=>whnf);first|refine U0 ?_ ?_;exact gS|refine dS.mk ?_ ?_;exact zbE));(conv=>whnf);(refineλ(y:Int)(a:0<=y)b=>?_);replace hF:=hF y a b));(conv at hF=>whnf)));replace hF:=qO hF;(repeat'((conv=>whnf);first|refine U0 ?_ ?_;exact gS|refine dS.mk ?_ ?_;exact zbE|(refine U1 ?_;exact hF)|refine U1 ?_|apply gU;exact gA|refine gB ?_ ?_<;>intro c h<;>try exact bG|refineλ(y:Int)(a:0<=y)b=>?_));done):p:=h
def zCL(h:p:=by intro K hF;(conv at hF=>whnf);(repeat((first|(have s:=W9 hF;replace hF:=lq hF)|(replace hF:=mR hF)|((repeat((conv=>whnf);first|refine U0 ?_ ?_;exact gS|refine dS.mk ?_ ?_;exact zbE));(conv=>whnf);(refineλ(y:Int)(a:0<=y)b=>?_);replace hF:=hF y a b)|((repeat((conv=>whnf);first|refine U0 ?_ ?_;exact gS|refine dS.mk ?_ ?_;exact zbE));(conv=>whnf);(refine qM Y6 ?_);replace hF:=zy hF Y6)|((repeat((conv=>whnf);first|refine U0 ?_ ?_;exact gS|refine dS.mk ?_ ?_;exact zbE));(conv=>whnf);(refine na Y6 ?_);replace hF:=uR hF Y6));(conv at hF=>whnf)));replace hF:=qO hF;(repeat'((conv=>whnf);first|refine U0 ?_ ?_;exact gS|refine dS.mk ?_ ?_;exact zbE|(refine U1 ?_;exact hF)|refine U1 ?_|apply gU;exact gA|refine gB ?_ ?_<;>intro c h<;>try exact bG|refineλ(y:Int)(a:0<=y)b=>?_));done):p:=h
def YT(h:p:=by intro K hF;(conv at hF=>whnf);(repeat((first|(have s:=W9 hF;replace hF:=lq hF)|(replace hF:=mR hF)|((repeat((conv=>whnf);(refine U0 ?_ ?_;exact gS)));(conv=>whnf);(refineλ(y:Int)(a:0<=y)b=>?_);replace hF:=hF y a b)|((repeat((conv=>whnf);(refine U0 ?_ ?_;exact gS)));(conv=>whnf);(refine qM Y6 ?_);replace hF:=zy hF Y6)|((repeat((conv=>whnf);(refine U0 ?_ ?_;exact gS)));(conv=>whnf);(refine na Y6 ?_);replace hF:=uR hF Y6));(conv at hF=>whnf)));replace hF:=qO hF;(repeat'((conv=>whnf);first|refine U0 ?_ ?_;exact gS|refine dS.mk ?_ ?_;exact zbE|(refine U1 ?_;exact hF)|refine U1 ?_|apply gU;exact gA|refine gB ?_ ?_<;>intro c h<;>try exact bG|refineλ(y:Int)(a:0<=y)b=>?_));done):p:=h
abbrev mQ:Sh⊕List Sh:=.inr [.int,.int,.int,.int,.int,.int,.int,.bC,.bool,.int,.int,.bn,.int,.int,.bool,.bool,.bool,.bool]
abbrev OO:Sh⊕List Sh:=.inr [.int,.int,.int,.int,.int,.int,.int,.bC,.bool,.int,.int,.bn,.int,.int,.bool,.bool,.bool,.bool,.int,.int,.int,.int,.int,.int,.int,.bC,.bool,.int,.int,.bn,.int,.int,.bool,.bool,.bool,.bool]
abbrev lN:Sh⊕List Sh:=.inr [.int,.int,.int,.int,.int,.int,.int,.bC,.bool,.int,.int,.bn,.int,.int,.bool,.bool,.bool,.bool,.bn,.bn,.int,.int]
abbrev oG:Sh⊕List Sh:=.inr [.int,.int,.int,.int,.int,.int,.int,.bC,.bool,.int,.int,.bn,.int,.int,.bool,.bool,.bool,.bool,.bn,.bn,.int,.int,.int,.int,.int,.int,.int,.int,.int,.bC,.bool,.int,.int,.bn,.int,.int,.bool,.bool,.bool,.bool,.bn,.bn,.int,.int]
def gW(h:p:=by(repeat'((conv=>whnf);first|refine U0 ?_ ?_;exact gS|refine U1 ?_|apply gU;exact gA|refine gB ?_ ?_<;>intro b h<;>try exact bG|refineλ(y:Int)(a:0<=y)c=>?_));all_goals exact gF Y3):p:=h
def gWf(h:p:=by(repeat'((conv=>whnf);first|refine U0 ?_ ?_;exact gS|refine dS.mk ?_ ?_;exact wP|refine U1 ?_|apply gU;exact gA|refine gB ?_ ?_<;>intro b h<;>try exact bG|refineλ(y:Int)(a:0<=y)c=>?_));all_goals exact gF Y3):p:=h
section
variable{P:al}
variable{G:bK}{TR:Nat->Tr}{f:bu}{s:List (Sh⊕List Sh)}
def aV{T:lJ}{b:dH}{S:DA s->(DV->Prop)->Prop}(c:eV P T)(M:P.follows .mixedOrders=E)(e:aR P G)(a:P.funcs[f]?=C b)(n:eI s.length b.ntmps=E)(h:∀(x:DA s)(K:DV->Prop),S x K->bdA s x->ta s x λv=>s8 T G 0 [] TR b v [] λr hp=>∃d,MC hp r d/\K d):fi P f s S:=by rw[qS]at h;exact zrg c M e a n h
def ZC{T:lJ}{g:ah}{i:dH}{S:Int->DA s->(DV->Int->Prop)->Prop}(k:eV P T)(M:P.follows .mixedOrders=E)(m:aR P G)(a:P.funcs[f]?=C i)(n:eI (s.length+1) i.ntmps=E)(o:YW s=E)(h:∀(j:Y)(l:List UInt8)(p:Int)(x:DA s)(K:DV->Int->Prop),l.length<=lH->S p x K->ta s x λc=>s8 T G 1 [0] TR i (.l (.p 0 0)::c) [.b [.fx j (.bytes l),.v (.int .i64 p)] g] λr hp=>∃d e,zt4 j l g hp e (MC hp r d)/\K d e):zhw P f g s S:=by rw[qS]at h;exact zmP k M m a n o h
def jx{cx:Cx}{β:List En}{hp:Hp}{w:V}{T:lJ}(d:eV P T)(M:P.follows .mixedOrders=E)(g:Ad P G cx){W0:List Nat}{b:dH}(a:P.funcs[f]?=C b){xs:List AV}{c:Array Y}{K:AV->Hp->Prop}(I:ki cx β hp w)(i:IL cx β xs c.toList)(n:eI xs.length b.ntmps=E)(h:s8 T G hp.length W0 TR b xs hp K):dE P f c w λe w'=>∃v r p bR,e=.returned v/\K r p/\AC cx bR r v/\ki cx bR p w'/\Lk β hp w bR p w':=by rw[qS]at h;exact Cs d g M a I i Y7 h
def FQ(T:lJ)(G:bK)(a:Nat->Tr)(f:dH):CS:={S:=λx hp K=>af (eI x.length f.ntmps=E)<|CY (IV hp) λn=>s8 T G n [] a f x hp K,sb:=λ_=>U}
def ziR{T:lJ}{a:Nat->Tr}{fn:dH}(b:eV P T)(M:P.follows .mixedOrders=E)(c:aR P G)(h:P.funcs[f]?=C fn)(o:(P.funcs[f]?).map (λfn=>(fn.name== "runtime.NumGoroutine",fn.body.isNone))=C (H,H)):bF P f (FQ T G a fn):=by
 have e:FQ T G a fn=csI T G a fn:=by unfold FQ csI;rw[qS]
 rw[e];exact zrh b M c h o
def bc{S:DA s->(DV->Prop)->Prop}(h:fi P f s S)(a:(P.funcs[f]?).map (λb=>(b.name== "runtime.NumGoroutine",b.body.isNone))=C (H,H):=by kernel_rfl):bF P f (cz s S):=Ze a h
def eP{T:lJ}{b:Nat->Tr}{a:dH}(c:eV P T)(M:P.follows .mixedOrders=E)(d:aR P G)(h:P.funcs[f]?=C a)(o:(P.funcs[f]?).map (λa=>(a.name== "runtime.NumGoroutine",a.body.isNone))=C (H,H):=by kernel_rfl):bF P f (FQ T G b a):=ziR c M d h o
end
end Ab
open Go.RowKit
namespace Ab
def frO(w:V)(e:Nat):List (Option DL)->List Y->List Y->List Nat->Prop|[],_,[],f=>f=[]|none::a,u::us,v::g,f=>v=u/\frO w e a us g f|some d::a,_::us,v::g,f=>∃b c,f=b++c/\frL w e d v b/\frO w e a us g c|_,_,_,_=>False
def zyU(u:Array Y):Option (List UInt8)->Y|some s=>.tuple #[.agg u,fR s]|none=>.agg u
def zbt(P:al)(f:bu)(b:List Sh)(a:List (Sh⊕List Sh))(S:HL b->DA a->(Nat->List (Option DL)->Option (List UInt8)->Prop)->Prop):Prop:=∀(x:HL b)(y:DA a)(K:Nat->List (Option DL)->Option (List UInt8)->Prop),S x y K->∀(w:V)(c:Array Y)(v:List Y),SC w b x c.toList->rdA w a y v->Gw w->dE P f (#[.agg c]++v.toArray) w λe g=>∃(n:Nat)(d:List (Option DL))(s:Option (List UInt8))(u:Array Y),e=.returned (zyU u s)/\K n d s/\cj w.heap.size w g/\∃h,frO g w.heap.size d (c.toList.drop n) u.toList h/\h.Nodup
def zhI:Hp->List (Option DL)->List LV->(List LV->Hp->Prop)->Prop|hp,[],_,K=>K [] hp|hp,U::a,c::cs,K=>zhI hp a cs λb p=>K (c::b) p|hp,C d::a,_::cs,K=>zhH hp d λx h=>zhI h a cs λb p=>K (x::b) p|_,_,_,_=>False
def zyT(c:List LV):Option (List UInt8)->AV|some s=>.t [.inr c,.inl (.str s)]|none=>.a c
def IM(e:List Sh)(b:List (Sh⊕List Sh))(S:HL e→DA b→(Nat→List (Option DL)→Option (List UInt8)→Prop)→Prop):CS:={S:=fun f hp K=>(match f with|.a cs::r=>zbB hp e cs fun x=>Ae hp b r fun y=>S x y fun n d s=>zhI hp d (cs.drop n) fun c p=>K (zyT c s) p|_=>False),sb:=fun _=>C []}
section
variable{P:al}{cx:Cx}{β:List En}{hp:Hp}{w:V}
def zdT{B:Nat}{T:V}(l:∀k b,cN hp β k=C b->b<B)(i:cx.w0.heap.size<=B):∀{P:List (Option DL)}{Q:List LV}{R S:List Y}{N I:List Nat}{lL:List En}{p:Hp}{K:List LV->Hp->Prop},Oy cx B T β hp I lL p->gi cx lL Q R->frO T B P R S N->N.Nodup->(∀b∈N,b∉I)->zhI p P Q K->∃O a sP,K O a/\gi cx sP O S/\Oy cx B T β hp (I++N) sP a/\uZ lL sP|[],_,_,[],N,I,lL,p,K,h,_,f,_,_,g=>by subst f;exact⟨[],p,lL,g,aA,Y7,uZ.refl _⟩|none::P,c::Q,u::R,v::S,N,I,lL,p,K,h,M,f,W,m,g=>by obtain⟨rfl,f⟩:=f;obtain⟨O,a,sP,q,r,s,n⟩:=zdT l i h M.2 f W m g;exact⟨c::O,a,sP,q,⟨M.1.ext n,r⟩,s,n⟩|some d::P,c::Q,u::R,v::S,N,I,lL,p,K,h,M,f,W,m,g=>by obtain⟨F,G,rfl,q,r⟩:=f;have⟨X,y,z⟩:=fw.1 W;obtain⟨x,a,sP,s,n,A,w⟩:=zdS l i h q (λb o=>m b (by simp[o])) g;obtain⟨O,t,β3,J,D,L,j⟩:=zdT l i A (M.2.ext w) r y (λb o e=>by grind) s;exact⟨x::O,t,β3,J,⟨n.ext j,D⟩,Y7,w.trans j⟩|[],_,_,_::_,_,_,_,_,_,_,_,f,_,_,_=>f.elim|none::_,[],_,_,_,_,_,_,_,_,_,_,_,_,g=>g.elim|some _::_,[],_,_,_,_,_,_,_,_,_,_,_,_,g=>g.elim|none::_,_::_,[],_,_,_,_,_,_,_,M,_,_,_,_=>M.elim|some _::_,_::_,[],_,_,_,_,_,_,_,M,_,_,_,_=>M.elim|none::_,_::_,_::_,[],_,_,_,_,_,_,_,f,_,_,_=>f.elim|some _::_,_::_,_::_,[],_,_,_,_,_,_,_,f,_,_,_=>f.elim
def O8{f:bu}{O:List Sh}{L:List (Sh⊕List Sh)}{S:HL O->DA L->(Nat->List (Option DL)->Option (List UInt8)->Prop)->Prop}(h:zbt P f O L S)(i:(P.funcs[f]?).map (λQ=>(Q.name== "runtime.NumGoroutine",Q.body.isNone))=C (H,H):=by kernel_rfl):bF P f (IM O L S):=by refine⟨i,λR hp K j cx β w N M gl W=>?_⟩;match R,j with|.a cs::r,j=>have⟨l⟩:=N;match l,W with
 |v::N,⟨⟨us,X,T⟩,Z⟩=>
 subst X;have⟨x,t,z⟩:=zdN M T j;have⟨y,A,B⟩:=Lf M Z t;have e:(⟨nU us::N⟩:Array Y)=#[.agg us]++N.toArray:=Y1;rw[e];apply b9 (h x y _ A w us N z B (gl.1.s4 gl.2 M.kp));rintro e w'⟨n,G,s,u,rfl,g,c,bs,I,D⟩;have J:Oy cx w.heap.size w' β hp [] β hp:=⟨M.zfB c,ao _,λ_ _=>⟨rfl,rfl⟩,λ_ _ h=>.inl h⟩;obtain⟨R,p,sP,F,q,d,m⟩:=zdT (λk b h=>(M.lt h).1) M.kp.size J (T.drop n) I D (λ_ _ h=>by cases h) g;refine⟨_,_,p,sP,rfl,F,?_,d.mI,m,λk b c=>(d.own k b c).imp id And.left,c.size,d.len,λk g _=>?_,λb o _=>c.block b o⟩;.cases s with|none=>exact⟨u,rfl,q⟩|some s=>exact⟨_,rfl,⟨u,rfl,q⟩,⟨rfl,rfl⟩,aA⟩
 unfold cN;rw[(d.pre k g).1,(d.pre k g).2]
end
def OU(u:Nat->Y):Nat->(s:List Sh)->HL s->(List LV->Prop)->Prop|_,[],_,K=>K []|i,.int::r,(a,b),K=>OU u (i+1) r b λc=>K (.v (.int .i64 a)::c)|i,.bool::r,(a,b),K=>OU u (i+1) r b λc=>K (.v (.bool a)::c)|i,.bn::r,(a,b),K=>OU u (i+1) r b λc=>K (.fx (u i) (.bn a)::c)|i,.bC::r,(a,b),K=>OU u (i+1) r b λc=>K (.fx (u i) (.bC a)::c)|_,_::_,_,_=>False
def SY(hp:Hp):List LV->List LV->List (Option DL)->List Nat->(List Nat->Prop)->Prop|_,[],[],k,K=>K k|c::cs,x::xs,U::a,k,K=>af (x=c)<|SY hp cs xs a k K|_::cs,x::xs,C d::a,k,K=>zfz hp x d k λb=>SY hp cs xs a b K|_,_,_,_,_=>False
def zoU(hp:Hp)(c:List LV)(r:AV)(n:Nat)(d:List (Option DL))(s:Option (List UInt8)):Prop:=match r with|.t [.inr xs,.inl (.str b)]=>(match s with|some s=>SY hp (c.drop n) xs d [] λ_=>af (b=s) True|none=>False)|.a xs=>(match s with|none=>SY hp (c.drop n) xs d [] λ_=>True|some _=>False)|_=>False
def Wp:LV->Bool|.v _|.fx _ _=>E|_=>H
section
variable{P:al}{cx:Cx}{β:List En}{hp:Hp}{w:V}
def zro{a:Cx}{bR:List En}{c:LV}{u v:Y}(d:Wp c=E)(h:LC cx β c u)(k:LC a bR c v):v=u:=by
 cases c<;>first|(cases d;done)|skip
 .exact k.2.trans h.2.symm
 .exact k.2.1.trans h.2.1.symm
def Zp{i:Cx}{bR:List En}(I:ki cx β hp w):∀{cs J:List LV}{L:List (Option DL)}{M N:List Y}{f:List Nat}{K:List Nat->Prop},cs.all Wp=E->gi i bR cs M->gi cx β J N->SY hp cs J L f K->∃a,K a/\∃G,frO w cx.w0.heap.size L M N G/\(G.Nodup/\∀b∈G,∃k,k∉f/\k∈a/\cN hp β k=C b)/\∀k∈f,k∈a|cs,[],[],_,[],f,K,_,_,_,h=>⟨f,by cases cs<;>exact h,[],rfl,⟨Y1,λb s=>by cases s⟩,λk j=>j⟩|c::cs,x::J,U::L,u::M,v::N,f,K,hd,F,D,h=>by rw[fh,aj]at hd;have⟨e,t⟩:=aH.1 h;subst e;have⟨a,l,G,m,n,g⟩:=Zp I hd.2 F.2 D.2 t;exact⟨a,l,G,⟨zro hd.1 F.1 D.1,m⟩,n,g⟩|c::cs,x::J,C d::L,u::M,v::N,f,K,hd,F,D,h=>by rw[fh,aj]at hd;have⟨y,l,p,m,n,g⟩:=zd0 I D.1 h;have⟨o,z,q,A,B,r⟩:=Zp I hd.2 F.2 D.2 l;exact⟨o,z,p++q,⟨p,q,rfl,m,A⟩,Cw I n B g r,λk j=>r k (g k j)⟩|_,[],[],_,_::_,_,_,_,_,D,_=>D.elim|[],[],_::_,_,_,_,_,_,_,_,h=>by simp[SY]at h|[],_::_,_,_,_,_,_,_,_,_,h=>by simp[SY]at h|_::_,[],_::_,_,_,_,_,_,_,_,h=>by simp[SY]at h|_::_,_::_,[],_,_,_,_,_,_,_,h=>by simp[SY]at h|_::_,_::_,U::_,[],_,_,_,_,F,_,_=>F.elim|_::_,_::_,C _::_,[],_,_,_,_,F,_,_=>F.elim|_::_,_::_,U::_,_::_,[],_,_,_,_,D,_=>D.elim|_::_,_::_,C _::_,_::_,[],_,_,_,_,D,_=>D.elim
def UQ:∀{n:List Sh}{x:HL n}{o:List Y}{u:Nat->Y}{i:Nat}{K:List LV->Prop},(∀j v,o[j]?=C v->u (i+j)=v)->SC w n x o->OU u i n x K->∃l,K l/\l.all Wp=E/\gi ⟨w,[]⟩ β l o/\bds n x
 |[],_,[],_,_,_,_,_,h=>⟨[],h,rfl,aA,aA⟩|s::r,(a,b),v::o,u,i,K,hu,g,h=>by
  have f:=hu 0 v rfl;have d:=λj p q=>by have:=hu (j+1) p (by simpa using q);rwa[show i+(j+1)=i+1+j by omega]at this
  have c:=Pq (β:=β) g.1;cases s with |int=>have⟨l,m,k,k3,e⟩:=UQ d g.2 h;exact⟨_,m,by simpa[Wp]using k,⟨c.2,k3⟩,c.1,e⟩|bool=>have⟨l,m,k,k3,e⟩:=UQ d g.2 h;exact⟨_,m,by simpa[Wp]using k,⟨c.2,k3⟩,c.1,e⟩|bn=>have⟨l,m,k,k3,e⟩:=UQ d g.2 h;exact⟨_,m,by simpa[Wp]using k,⟨⟨c.2.1,f.symm,c.2.2⟩,k3⟩,c.1,e⟩|bC=>have⟨l,m,k,k3,e⟩:=UQ d g.2 h;exact⟨_,m,by simpa[Wp]using k,⟨⟨c.2.1,f.symm,c.2.2⟩,k3⟩,c.1,e⟩|_=>cases h
 |[],_,_::_,_,_,_,_,g,_=>g.elim|_::_,_,[],_,_,_,_,g,_=>g.elim
def F9{T:lJ}{G:bK}{TR:Nat->Tr}{f:bu}{fn:dH}{X:List Sh}{W:List (Sh⊕List Sh)}{S:HL X->DA W->(Nat->List (Option DL)->Option (List UInt8)->Prop)->Prop}(hT:eV P T)(hM:P.follows .mixedOrders=E)(hG:aR P G)(o:P.funcs[f]?=C fn)(hn:eI (W.length+1) fn.ntmps=E)(h:∀(x:HL X)(y:DA W)(K:Nat->List (Option DL)->Option (List UInt8)->Prop),S x y K->bdA W y->∀u:Nat->Y,OU u 0 X x λZ=>bds X x->ta W y λp=>s8 T G 0 [] TR fn (.a Z::p) [] λr hp=>∃n ds s,zoU hp Z r n ds s/\K n ds s):zbt P f X W S:=by
 intro x y K F w us vs hr c J;have⟨q,ha⟩:=vc (β:=[]) c;obtain⟨Z,k1,L,k3,M⟩:=UQ (u:=λi=>us.toList.getD i undef) (λj v hj=>Y7) hr (h x y K F q _);have hI:ki ⟨w,[]⟩ [] [] w:=⟨uO.refl _ _,rfl,λk t e h=>by simp at h,λi k b h=>by simp[cN]at h⟩;have d:IL ⟨w,[]⟩ [] (.a Z::IT W y) (#[nU us]++vs.toArray).toList:=by simpa using⟨⟨us,rfl,k3⟩,ha⟩
 apply b9 (jx hT hM ⟨hG,.inr ⟨J,Gm.nil⟩⟩ o hI d (by rw[aW,oR];exact hn) (mm.1 (k1 M)));rintro e w'⟨v,r,dF,bR,rfl,⟨n,ds,s,g,D⟩,m,I,_⟩;have hd:(Z.drop n).all Wp=E:=Y8;have Q:cj w.heap.size w w':=⟨I.kp.os,I.kp.tape,I.kp.output,I.kp.size,λb q=>I.kp.block b q Y1⟩;unfold zoU at g;split at g
 .obtain⟨ws,rfl,m⟩:=m;have⟨ws⟩:=ws;cases s with|none=>cases g|some s=>match ws,m with|[v1,v2],hw=>have⟨⟨l,N,z⟩,⟨_,A⟩,_⟩:=hw;subst N;have⟨_,O,bs,B,R,_⟩:=Zp I hd (k3.drop n) z g;obtain⟨rfl,_⟩:=aH.1 O;subst A;exact⟨n,ds,_,l,rfl,D,Q,bs,B,R.1⟩
 .cases s with|some s=>cases g|none=>obtain⟨l,rfl,z⟩:=m;have⟨_,_,bs,B,R,_⟩:=Zp I hd (k3.drop n) z g;exact⟨n,ds,U,l,rfl,D,Q,bs,B,R.1⟩
 .cases g
end
end Ab
open Go.RowKit
open Ab
abbrev zi:LV:=.v (.int .i64 0)
abbrev zb:LV:=.v (.bool H)
abbrev zs:LV:=.v (.slice U 0 0)
abbrev zp:LV:=.v (.pointer U)
abbrev zc:LV:=.v (.int .u8 0)
def gT{i:Nat}{t:TI}(h:IQ aa.prog i t:=by refine⟨gK,gK,rfl,rfl,?_,λ_ h=>by cases h<;>exact⟨gK,gK,gK,gK⟩,λ_ h=>by cases h⟩;first|(show _=_;kernel_rfl)|exact⟨gK,gK⟩|exact⟨gK,gK,gK⟩|exact⟨gK,gK,gK,rfl⟩):IQ aa.prog i t:=h
def zDP:TI:=⟨1,H,[.v (.pointer U)],8,.ptr 263,U,[("Len",223,H),("Less",267,H),("Pop",268,E),("Push",269,E),("Swap",270,H)]⟩
def zDO:IQ aa.prog 261 zDP:=⟨gK,gK,rfl,rfl,by show aa.prog.underlying 261=C (TypeDesc.pointer 263);kernel_rfl,(λk h=>by cases h),(by
 intro m b n w;change m∈([("Len",223,H),("Less",267,H),("Pop",268,E),("Push",269,E),("Swap",270,H)]:List (String×bu×Bool))at b;simp only[bq,List.not_mem_nil,or_false]at b;rcases b with rfl|rfl|rfl|rfl|rfl;.exact⟨λh=>(by cases h),λ_ e a=>by replace a:TK.ptr 263=TK.ptr e:=a;obtain rfl:=TK.ptr.inj a;show Sem.run _ _ _=Sem.run _ _ _;kernel_rfl⟩
 .exact⟨λh=>(by cases h),λ_ e a=>by replace a:TK.ptr 263=TK.ptr e:=a;obtain rfl:=TK.ptr.inj a;show Sem.run _ _ _=Sem.run _ _ _;kernel_rfl⟩
 .exact⟨λ_=>gK,Y9⟩
 .exact⟨λ_=>gK,Y9⟩
 .exact⟨λh=>(by cases h),λ_ e a=>by replace a:TK.ptr 263=TK.ptr e:=a;obtain rfl:=TK.ptr.inj a;show Sem.run _ _ _=Sem.run _ _ _;kernel_rfl⟩)⟩
def fQ:lJ:=[(2,⟨1,H,[zi],8,.int .i64,U,[]⟩),(3,⟨1,H,[zi],8,.int .i64,U,[]⟩),(4,⟨1,H,[zb],1,.bool,U,[]⟩),(5,⟨1,H,[zc],1,.int .u8,U,[]⟩),(9,⟨1,H,[.str []],16,.str,U,[]⟩),(12,⟨1,H,[.v (.int .u64 0)],8,.int .u64,U,[]⟩),(15,⟨1,H,[zp],8,.ptr 306,U,[]⟩),(16,⟨1,H,[zp],8,.ptr 309,U,[]⟩),(17,⟨1,H,[zp],8,.ptr 316,U,[]⟩),(22,⟨1,H,[zs],24,.slice 5 1 .bytes,U,[]⟩),(27,⟨1,H,[zp],8,.ptr 69,U,[]⟩),(33,⟨3,E,[zi,zi,zi],24,.struct [(0,1,H),(1,1,H),(2,1,H)],C [C .i64,C .i64,C .i64],[]⟩),(34,⟨1,H,[zs],24,.slice 80 2 .bC,U,[]⟩),(36,⟨5,E,[zi,zi,zs,zb,zi],56,.struct [(0,1,H),(1,1,H),(2,1,H),(3,1,H),(4,1,H)],U,[]⟩),(37,⟨1,H,[zs],24,.slice 3 1 .bn,U,[]⟩),(39,⟨4,E,[zi,zs,zi,zi],48,.struct [(0,1,H),(1,1,H),(2,1,H),(3,1,H)],U,[]⟩),(41,⟨4,E,[zb,zb,zb,zb],4,.struct [(0,1,H),(1,1,H),(2,1,H),(3,1,H)],C [U,U,U,U],[]⟩),(43,⟨18,E,[zi,zi,zi,zi,zi,zi,zi,zs,zb,zi,zi,zs,zi,zi,zb,zb,zb,zb],152,.struct [(0,3,E),(3,1,H),(4,1,H),(5,5,E),(10,4,E),(14,4,E)],U,[]⟩),(45,⟨22,E,[zi,zi,zi,zi,zi,zi,zi,zs,zb,zi,zi,zs,zi,zi,zb,zb,zb,zb,zs,zs,zi,zi],216,.struct [(0,18,E),(18,1,H),(19,1,H),(20,1,H),(21,1,H)],U,[]⟩),(48,⟨1,H,[zp],8,.ptr 52,U,[]⟩),(50,⟨44,E,[zi,zi,zi,zi,zi,zi,zi,zs,zb,zi,zi,zs,zi,zi,zb,zb,zb,zb,zs,zs,zi,zi,zi,zi,zi,zi,zi,zi,zi,zs,zb,zi,zi,zs,zi,zi,zb,zb,zb,zb,zs,zs,zi,zi],432,.struct [(0,22,E),(22,22,E)],U,[]⟩),(52,⟨44,E,[zi,zi,zi,zi,zi,zi,zi,zs,zb,zi,zi,zs,zi,zi,zb,zb,zb,zb,zs,zs,zi,zi,zi,zi,zi,zi,zi,zi,zi,zs,zb,zi,zi,zs,zi,zi,zb,zb,zb,zb,zs,zs,zi,zi],432,.struct [(0,44,E)],U,[]⟩),(53,⟨1,H,[zp],8,.ptr 55,U,[]⟩),(55,⟨2,E,[zp,zs],32,.struct [(0,1,H),(1,1,H)],U,[]⟩),(56,⟨1,H,[zs],24,.slice 9 1 .strs,U,[]⟩),(69,⟨2,E,[zs,zi],32,.struct [(0,1,H),(1,1,H)],U,[]⟩),(75,⟨1,E,[.str []],16,.struct [(0,1,H)],U,[]⟩),(77,⟨1,H,[.v (.map U)],8,.map E,U,[]⟩),(80,⟨2,E,[zi,zi],16,.struct [(0,1,H),(1,1,H)],C [C .i64,C .i64],[]⟩),(81,⟨1,H,[zp],8,.ptr 5,U,[]⟩),(96,⟨1,H,[zp],8,.ptr 45,U,[]⟩),(106,⟨9,E,[zi,zi,zs,zb,zi,zi,zs,zi,zi],104,.struct [(0,5,E),(5,4,E)],U,[]⟩),(116,⟨24,E,[zc,zc,zc,zc,zc,zc,zc,zc,zc,zc,zc,zc,zc,zc,zc,zc,zc,zc,zc,zc,zc,zc,zc,zc],24,.arr 24 5 1 H,U,[]⟩),(117,⟨1,H,[.v (.int .u64 0)],8,.int .u64,U,[]⟩),(127,⟨1,H,[.v (.int .u64 0)],8,.int .u64,U,[]⟩),(129,⟨36,E,[zi,zi,zi,zi,zi,zi,zi,zs,zb,zi,zi,zs,zi,zi,zb,zb,zb,zb,zi,zi,zi,zi,zi,zi,zi,zs,zb,zi,zi,zs,zi,zi,zb,zb,zb,zb],304,.struct [(0,18,E),(18,18,E)],U,[]⟩),(134,⟨20,E,[.v (.int .u64 0),.v (.int .u64 0),.v (.int .u64 0),.v (.int .u64 0),.v (.int .u64 0),.v (.int .u64 0),.v (.int .u64 0),.v (.int .u64 0),.v (.int .u64 0),.v (.int .u64 0),.v (.int .u64 0),.v (.int .u64 0),.v (.int .u64 0),.v (.int .u64 0),.v (.int .u64 0),.v (.int .u64 0),.v (.int .u64 0),.v (.int .u64 0),.v (.int .u64 0),.v (.int .u64 0)],160,.arr 20 117 1 H,U,[]⟩),(144,⟨2,E,[zi,zs],32,.struct [(0,1,H),(1,1,H)],U,[]⟩),(149,⟨32,E,[zc,zc,zc,zc,zc,zc,zc,zc,zc,zc,zc,zc,zc,zc,zc,zc,zc,zc,zc,zc,zc,zc,zc,zc,zc,zc,zc,zc,zc,zc,zc,zc],32,.arr 16 148 2 E,U,[]⟩),(153,⟨1,H,[.v (.chan U)],8,.chan,U,[]⟩),(183,⟨1,H,[.v (.chan U)],8,.chan,U,[]⟩),(186,⟨1,H,[.v (.chan U)],8,.chan,U,[]⟩),(192,⟨1,H,[zp],8,.ptr 164,U,[]⟩),(198,⟨1,H,[zp],8,.ptr 135,U,[]⟩),(204,⟨1,H,[.v (.map U)],8,.map H,U,[]⟩),(205,⟨1,H,[zp],8,.ptr 168,U,[]⟩),(209,⟨1,H,[zp],8,.ptr 229,U,[]⟩),(212,⟨32,E,[zc,zc,zc,zc,zc,zc,zc,zc,zc,zc,zc,zc,zc,zc,zc,zc,zc,zc,zc,zc,zc,zc,zc,zc,zc,zc,zc,zc,zc,zc,zc,zc],32,.arr 32 5 1 H,U,[]⟩),(227,⟨1,H,[zp],8,.ptr 251,U,[]⟩),(229,⟨3,E,[zp,zp,zi],24,.struct [(0,1,H),(1,1,H),(2,1,H)],U,[]⟩),(231,⟨2,E,[zb,zb],2,.arr 2 4 1 H,U,[]⟩),(232,⟨1,H,[zp],8,.ptr 4,U,[]⟩),(234,⟨2,E,[zp,zp],16,.struct [(0,1,H),(1,1,H)],U,[]⟩),(235,⟨4,E,[zp,zp,zp,zp],32,.arr 2 234 2 E,U,[]⟩),(237,⟨1,H,[zp],8,.ptr 41,U,[]⟩),(238,⟨1,H,[zp],8,.ptr 162,U,[]⟩),(240,⟨1,H,[zp],8,.ptr 117,U,[]⟩),(244,⟨1,H,[zp],8,.ptr 166,U,[]⟩),(246,⟨1,H,[zp],8,.ptr 21,U,[]⟩),(251,⟨3,E,[zi,zi,zp],24,.struct [(0,2,E),(2,1,H)],U,[]⟩),(258,⟨1,H,[zp],8,.ptr 274,U,[]⟩),(261,zDP),(262,⟨1,H,[zs],24,.slice 265 3 .k3,U,[]⟩),(263,⟨1,H,[zs],24,.slice 265 3 .k3,U,[]⟩),(265,⟨3,E,[zi,zi,zi],24,.struct [(0,1,H),(1,1,H),(2,1,H)],C [C .i64,C .i64,C .i64],[]⟩),(266,⟨18,E,[zi,zi,zi,zi,zi,zi,zi,zi,zi,zi,zi,zi,zi,zi,zi,zi,zi,zi],144,.arr 6 265 3 E,U,[]⟩),(272,⟨16,E,[zi,zi,zi,zi,zi,zi,zi,zi,zi,zi,zi,zi,zi,zi,zi,zi],128,.arr 16 3 1 H,U,[]⟩),(274,⟨19,E,[zi,zi,zi,zi,zi,zi,zi,zi,zi,zi,zi,zi,zi,zi,zi,zi,zi,zi,zi],152,.struct [(0,16,E),(16,1,H),(17,1,H),(18,1,H)],U,[]⟩),(295,⟨1,H,[zp],8,.ptr 324,U,[]⟩),(302,⟨1,H,[zs],24,.osl 59,U,[]⟩),(304,⟨1,H,[zp],8,.ptr 326,U,[]⟩),(327,⟨1,H,[zp],8,.ptr 331,U,[]⟩),(332,⟨1,H,[zs],24,.osl 335,U,[]⟩)]
def aJ:eV aa.prog fQ:=VY ⟨gT,gT,gT,gT,gT,gT,gT,gT,gT,gT,gT,gT,gT,gT,gT,gT,gT,gT,gT,gT,gT,gT,gT,gT,gT,gT,gT,gT,gT,gT,gT,gT,gT,gT,gT,gT,gT,gT,gT,gT,gT,gT,gT,gT,gT,gT,gT,gT,gT,gT,gT,gT,gT,gT,gT,gT,gT,gT,gT,gT,gT,zDO,gT,gT,gT,gT,gT,gT,gT,gT,gT,gT,gT,aA⟩
def au:aa.prog.follows .mixedOrders=E:=gK
structure zh5 where
 bS:Int
 items:List Int
 b:Int
 ok:Bool
def F5(a:Int)(l:List Int):zh5:=if jJ a l then(match l with|x::r=>⟨a,r,x,E⟩|[]=>⟨0,[],0,H⟩)else⟨0,[],0,H⟩
def zoD(r:Int)(l:List Int):List DL:=[.v (.int .i64 r),.s 3 (.bn l)]
def zh5.d(t:zh5):DV:=.t [.inr (zoD t.bS t.items),.inl (.v (.int .i64 t.b)),.inl (.v (.bool t.ok))]
structure zw where
 bS:Int
 items:List Int
 shift:Int
 left:Int
def zw.d(s:zw):List DL:=[.v (.int .i64 s.bS),.s 3 (.bn s.items),.v (.int .i64 s.shift),.v (.int .i64 s.left)]
def lg(s:zw):Bool:=jJ s.bS s.items&&(if s.shift=-1 then decide (s.left=0)else ed s.shift&&(decide (1<=s.left)&&decide (s.left<=3)))
def y5(s:zw):Int×Int×Int:=if s.shift=-1 then(-1,-1,s.left)else if s.left=1 then(s.shift,-1,0)else(-1,s.shift,s.left-1)
def fI(s:zw):zw×Int:=if(y5 s).2.1=-1 then(match s.items with|x::r=>(⟨s.bS,r,x,3⟩,(y5 s).1)|[]=>(⟨s.bS,[],-1,(y5 s).2.2⟩,(y5 s).1))else(⟨s.bS,s.items,(y5 s).2.1,(y5 s).2.2⟩,(y5 s).1)
structure zh6 where
 s:zw
 gone:Int
 ok:Bool
def kJ(s:zw):zh6:=if lg s then⟨(fI s).1,(fI s).2,E⟩else⟨⟨0,[],0,0⟩,0,H⟩
def zh6.d(t:zh6):DV:=.t [.inr t.s.d,.inl (.v (.int .i64 t.gone)),.inl (.v (.bool t.ok))]
def jU(s:zw):Int:=if lg s then(if 0<s.items.length then 0 else if s.shift=-1 then 96 else 32)else-1
def ZS{r:Int}{l:List Int}(h:jJ r l=E):1<=r/\r<=16/\(l.length:Int)<=r/\iw l=E:=by simp[jJ,aj,decide_eq_true_eq]at h;simp_all
def Zx{x:Int}(h:ed x=E):0<=x/\x<=255:=by simpa[ed]using h
variable{s:zw}
def iU(h:lg s=E):(s.bS<=16/\(s.items.length:Int)<=s.bS/\1<=s.bS)/\iw s.items=E/\((s.shift=-1/\s.left=0)\/(0<=s.shift/\s.shift<=255/\1<=s.left/\s.left<=3)):=by
 simp only[lg,aj]at h;have⟨b,a⟩:=h;have:=ZS b;refine⟨Y0,this.2.2.2,?_⟩;split at a;.simp_all
 .right;simp[aj,decide_eq_true_eq]at a;have:=Zx a.1;omega
def pend(s:zw):List Int:=(if 0<=s.shift then[s.shift]else[])++s.items
def pR{x:Int}{l:List Int}(h:iw (x::l)=E):ed x=E/\iw l=E:=by simpa[iw]using h
def E1(v:lg s=E):lg (fI s).1=E:=by have⟨r,l,s,f⟩:=s;have⟨⟨c,d,e⟩,a,g⟩:=iU v;by_cases b:s=-1<;>by_cases h:f=1<;>cases l<;>simp_all[fI,y5,lg,jJ]<;>first|(have:=pR a;simp_all[ed];omega)|(simp_all[ed];omega)
structure z7 where
 bS:Int
 lh:Int
 items:List (Int×Int)cX:Bool
 CP:Int
def z7.d(r:z7):List DL:=[.v (.int .i64 r.bS),.v (.int .i64 r.lh),.s 80 (.bC r.items),.v (.bool r.cX),.v (.int .i64 r.CP)]
def zyi(g:Int×Int):List DL:=[.v (.int .i64 g.1),.v (.int .i64 g.2)]
def zE(g:Int×Int):Bool:=ed g.1&&(decide (0<=g.2)&&decide (g.2<=2))
def Eb(l:List (Int×Int)):Bool:=l.all zE
def fT(r:z7):Bool:=decide (1<=r.bS)&&decide (r.bS<=16)&&decide (1<=r.lh)&&decide (r.lh<=r.bS)&&decide ((r.items.length:Int)<=r.bS)&&decide (0<=r.CP)&&decide (r.CP<=99)&&Eb r.items
def IW:z7:=⟨0,0,[],H,0⟩
structure zbO where
 r:z7
 g:Int×Int
 ok:Bool
def eH(r:z7):zbO:=if fT r then(match r.items with|g::l=>⟨⟨r.bS,r.lh,l,r.cX,0⟩,g,E⟩|[]=>⟨IW,(0,0),H⟩)else⟨IW,(0,0),H⟩
def zbO.d(t:zbO):DV:=.t [.inr t.r.d,.inr (zyi t.g),.inl (.v (.bool t.ok))]
structure zh2 where
 r:z7
 ok:Bool
def Ll(r:z7)(g:Int×Int):z7:=if(r.items.length:Int)<r.bS then⟨r.bS,r.lh,r.items++[g],r.cX,0⟩else⟨r.bS,r.lh,r.items,E,0⟩
def sg(r:z7)(g:Int×Int):zh2:=if fT r&&zE g then⟨Ll r g,E⟩else⟨IW,H⟩
def zh2.d(t:zh2):DV:=.t [.inr t.r.d,.inl (.v (.bool t.ok))]
def Bq(l:List (Int×Int))(k:Nat)(h:k<l.length):Eb (l.take (k+1))=(Eb (l.take k)&&zE (l.getD k (0,0))):=by unfold Eb;rw[cW,List.all_append,aN h];simp[nT,h]
theorem PW(l:List (Int×Int))(k:Nat)(a:k<l.length)(h:zE (l.getD k (0,0))=H):Eb l=H:=by unfold Eb;rw[List.all_eq_false];refine⟨l[k],List.getElem_mem a,?_⟩;simp[nT,aN a,Option.getD_some]at h;simp[h]
def nu{r:z7}(h:fT r=E):(1<=r.bS/\r.bS<=16)/\(1<=r.lh/\r.lh<=r.bS)/\(r.items.length:Int)<=r.bS/\(0<=r.CP/\r.CP<=99)/\Eb r.items=E:=by simp[fT,aj,decide_eq_true_eq]at h;simp_all
variable{t a:Int}{l:List (Int×Int)}{o:Bool}
def Oq{r:Int}(h:¬((1<=r/\r<=16)/\(1<=t/\t<=r)/\(l.length:Int)<=r/\(0<=a/\a<=99)/\Eb l=E)):fT ⟨r,t,l,o,a⟩=H:=by cases c:fT ⟨r,t,l,o,a⟩with|false=>rfl|true=>cases h (nu c)
def xd{r:Int}(h:1<=r/\r<=16)(b:1<=t/\t<=r)(d:(l.length:Int)<=r)(c:0<=a/\a<=99)(e:Eb l=E):fT ⟨r,t,l,o,a⟩=E:=by simp[fT,h.1,h.2,b.1,b.2,d,c.1,c.2,e]
structure Fmt where
 bits:Int
 par:Int
 stop:Int deriving DecidableEq
def Af(f:Fmt):Bool:=decide (5<=f.bits)&&decide (f.bits<=8)&&decide (0<=f.par)&&decide (f.par<=2)&&decide (1<=f.stop)&&decide (f.stop<=2)
def Wq(f:Fmt):Int:=if Af f then f.bits-5+4*(f.stop-1)+(if f.par=1 then 8 else if f.par=2 then 24 else 0)else-1
structure UL where
 c:Bool
 h:Bool
 cc:Bool
 hc:Bool deriving DecidableEq
def UL.d(m:UL):List DL:=[.v (.bool m.c),.v (.bool m.h),.v (.bool m.cc),.v (.bool m.hc)]
def O0(m:UL)(c h:Bool):UL:=⟨c,h,m.cc||(m.c !=c),m.hc||(m.h !=h)⟩
def WZ(m:UL):UL:=⟨m.c,m.h,H,H⟩
def Ar(m:UL):Int:=(if m.cc then 1 else 0)+(if m.hc then 2 else 0)+(if m.c then 16 else 0)+(if m.h then 32 else 0)
def OK(m:UL):Bool:=m.cc||m.hc
structure sZ where
 f:Fmt
 en:Int
 co:Int
 rc:z7
 sd:zw
 md:UL
def sZ.d(p:sZ):List DL:=[.v (.int .i64 p.f.bits),.v (.int .i64 p.f.par),.v (.int .i64 p.f.stop),.v (.int .i64 p.en),.v (.int .i64 p.co),.v (.int .i64 p.rc.bS),.v (.int .i64 p.rc.lh),.s 80 (.bC p.rc.items),.v (.bool p.rc.cX),.v (.int .i64 p.rc.CP),.v (.int .i64 p.sd.bS),.s 3 (.bn p.sd.items),.v (.int .i64 p.sd.shift),.v (.int .i64 p.sd.left),.v (.bool p.md.c),.v (.bool p.md.h),.v (.bool p.md.cc),.v (.bool p.md.hc)]
def eL(p:sZ):Bool:=Af p.f&&(decide (0<=p.en)&&decide (p.en<=15))&&(decide (0<=p.co)&&decide (p.co<=3))&&fT p.rc&&lg p.sd
def zyh:Fmt:=⟨0,0,0⟩
def zhR:zw:=⟨0,[],0,0⟩
def zqR:UL:=⟨H,H,H,H⟩
def Ej:sZ:=⟨zyh,0,0,IW,zhR,zqR⟩
def Av(r:z7):z7:=⟨r.bS,r.lh,r.items,r.cX,if 0<r.items.length then kG (r.CP+1) 99 else 0⟩
structure zbP where
 r:z7
 ok:Bool
def Ew(r:z7):zbP:=if fT r then⟨Av r,E⟩else⟨IW,H⟩
def zbP.d(t:zbP):DV:=.t [.inr t.r.d,.inl (.v (.bool t.ok))]
def mS(r:z7):Int:=if fT r then(if r.lh<=r.items.length then 1 else if 0<r.items.length/\4<=r.CP then 2 else 0)else 0
def qN(l:List (Int×Int)):Int:=match l with|[]=>0|g::_=>1+(if g.2=1 then 4 else if g.2=2 then 8 else 0)
def fV(r:z7):Int:=if fT r then(if r.cX then 2 else 0)+qN r.items else-1
def OI(s r:Int)(m:Bool)(e:Int):Int:=if 0<=s/\s<=127/\0<=r/\r<=2/\0<=e/\e<=15 then(if e/4%2=1/\2<=s%16 then 6 else if e%2=1/\r=1 then 4 else if e%2=1/\r=2 then 12 else if e/2%2=1/\s/32%2=1 then 2 else if e/8%2=1/\m=E then 0 else 1)else 1
def gu(p:sZ):Int:=fV p.rc+jU p.sd
def cS(p:sZ):Int:=if eL p then OI (gu p) (mS p.rc) (OK p.md) p.en else 1
def x5{f:Fmt}(h:Af f=E):(5<=f.bits/\f.bits<=8)/\(0<=f.par/\f.par<=2)/\(1<=f.stop/\f.stop<=2):=by simp[Af,aj,decide_eq_true_eq]at h;omega
def zeu{b c:Int}(h:¬((5<=a/\a<=8)/\(0<=b/\b<=2)/\(1<=c/\c<=2))):Af ⟨a,b,c⟩=H:=by cases d:Af ⟨a,b,c⟩with|false=>rfl|true=>cases h (x5 d)
variable{p:sZ}
def du(h:eL p=E):Af p.f=E/\(0<=p.en/\p.en<=15)/\(0<=p.co/\p.co<=3)/\fT p.rc=E/\lg p.sd=E:=by simp[eL,aj,decide_eq_true_eq]at h;simp_all
def hU{f:Fmt}{e c:Int}{r:z7}{m:UL}(b:Af f=E)(h:0<=e/\e<=15)(a:0<=c/\c<=3)(d:fT r=E)(g:lg s=E):eL ⟨f,e,c,r,s,m⟩=E:=by simp[eL,b,h.1,h.2,a.1,a.2,d,g]
def tr(h:eL p=E):0<=gu p/\gu p<=127:=by
 have⟨_,_,_,a,b⟩:=du h;simp[gu,fV,jU,a,b,if_true];have:0<=qN p.rc.items/\qN p.rc.items<=9:=by
  unfold qN;split;.omega
  .omega
 split<;>split<;>omega
def zo2(x y:sZ):Bool:=decide ((x.f.bits=y.f.bits/\x.f.par=y.f.par/\x.f.stop=y.f.stop)/\x.en=y.en/\x.co=y.co/\(x.md.c=y.md.c/\x.md.h=y.md.h/\x.md.cc=y.md.cc/\x.md.hc=y.md.hc)/\(x.rc.bS=y.rc.bS/\x.rc.lh=y.rc.lh/\x.rc.cX=y.rc.cX/\x.rc.CP=y.rc.CP/\x.rc.items=y.rc.items)/\(x.sd.bS=y.sd.bS/\x.sd.shift=y.sd.shift/\x.sd.left=y.sd.left/\x.sd.items=y.sd.items))
def bO(x:sZ):zo2 x x=E:=by simp[zo2]
structure fe where
 p:sZ
 pM:List Int
 out:List Int
 eX:Int
 cX:Int
def fe.d(x:fe):List DL:=x.p.d++[.s 3 (.bn x.pM),.s 3 (.bn x.out),.v (.int .i64 x.eX),.v (.int .i64 x.cX)]
def Lj(l:List Int):Bool:=decide (l.length<=32)&&iw l
def Wn(n:Int):Bool:=decide (0<=n)&&decide (n<=999)
def eR(x:fe):Bool:=eL x.p&&Lj x.pM&&Lj x.out&&Wn x.eX&&Wn x.cX
def FT:fe:=⟨Ej,[],[],0,0⟩
structure YM where
 x:fe
 ok:Bool
def YM.d(x:YM):DV:=.t [.inr x.x.d,.inl (.v (.bool x.ok))]
variable{x:fe}
def dw(h:eR x=E):eL x.p=E/\(x.pM.length<=32/\iw x.pM=E)/\(x.out.length<=32/\iw x.out=E)/\(0<=x.eX/\x.eX<=999)/\(0<=x.cX/\x.cX<=999):=by simp[eR,Lj,Wn,aj,decide_eq_true_eq]at h;simp_all
def nf(d:eL x.p=E)(h:x.pM.length<=32/\iw x.pM=E)(a:x.out.length<=32/\iw x.out=E)(b:0<=x.eX/\x.eX<=999)(c:0<=x.cX/\x.cX<=999):eR x=E:=by simp[eR,Lj,Wn,d,h.1,h.2,a.1,a.2,b.1,b.2,c.1,c.2]
structure lI where
 a:fe
 b:fe
def lI.d(x:lI):List DL:=x.a.d++x.b.d
def iZ(x:lI):Bool:=eR x.a&&eR x.b&&decide (x.a.p.f.bits=x.b.p.f.bits/\x.a.p.f.par=x.b.p.f.par/\x.a.p.f.stop=x.b.p.f.stop)
def zmy:lI:=⟨FT,FT⟩
structure zbu where
 l:lI
 ok:Bool
def zbu.d(x:zbu):DV:=.t [.inr x.l.d,.inl (.v (.bool x.ok))]
def O9(x:fe):Prop:=x.p.rc.items.length<=16/\x.p.sd.items.length<=16/\x.pM.length<=32/\x.out.length<=32
def zjO:O9 FT:=⟨a7 _,a7 _,a7 _,a7 _⟩
def Om(h:eL p=E):p.rc.items.length<=16/\p.sd.items.length<=16:=by have⟨_,_,_,c,d⟩:=du h;have a:=nu c;have b:=iU d;omega
def Gc(h:eR x=E):O9 x:=by have⟨b,c,d,_,_⟩:=dw h;have a:=Om b;exact⟨a.1,a.2,c.1,d.1⟩
def qz{x:lI}(h:iZ x=E):eR x.a=E/\eR x.b=E:=by simp[iZ,aj]at h;simp_all
def Ya:bK:=[]
def NI:aR aa.prog Ya:=an trivial
def ES:DA [.inl .int]->(DV->Prop)->Prop:=λ⟨x,_⟩K=>K (.l (.v (.bool (ed x))))
def XY:fi aa.prog 105 [.inl .int] ES:=by
 apply aV (TR:=eT) aJ au NI (Rn.fM func105) rfl;rintro⟨x,_⟩K hK _;dsimp only[ES]at hK;repeat'(conv=>whnf);first|apply U0;exact gS|apply gU;exact gA|refine gB ?_ ?_<;>intro b h<;>try exact bG
 all_goals(apply gI hK;repeat' first|exact gR|apply U0);simp[ed, *]
def yc:CS:=cz [.inl .int] ES
def vZ:bF aa.prog 105 yc:=bc XY
def R8:bK:=[(105,yc)]
def Ih:aR aa.prog R8:=an ⟨vZ,aA⟩
def yF:DA [.inl .bn]->(DV->Prop)->Prop:=λ⟨l,_⟩K=>K (.l (.v (.bool (iw l))))
def Rz:fi aa.prog 80 [.inl .bn] yF:=by
 apply aV (TR:=eT) aJ au Ih (Rn.fM func80) rfl;rintro⟨l,_⟩K hK⟨e,_⟩;dsimp only[yF]at hK;have e:=gl l e;repeat'(conv=>whnf);first|apply U0;exact gS|apply gB<;>intro b h<;>try exact bG
 apply dt.mI {k:Nat//k<=l.length/\iw (l.take k)=E} (λ⟨k,_⟩=>[(7,.l (.v (.int .i64 k)))]) (λ_=>[]) (λ⟨k,_⟩=>l.length-k) ⟨0,a7 _,rfl⟩ [];·(repeat'(first|(apply U0;exact gV)|exact aA))
 rintro⟨k,d,a⟩;repeat'(conv=>whnf);first|apply U0;exact gS|refine gB ?_ ?_<;>intro b h<;>try exact bG
 ·(apply gI hK;repeat' first|exact gR|apply U0);exact(tE l k Y0 h).symm
 .have c:iw (l.take (k+1))=E:=by simp_all[tO]
  (refine ae ⟨k+1,Y0,c⟩ (ae [] (aB ?_ ?_)));.grind
  ·(repeat'(first|(apply U0;exact gV)|exact aA))
 ·(apply gI hK;repeat' first|exact gR|apply U0);grind
def sK:CS:=cz [.inl .bn] yF
def rV:bF aa.prog 80 sK:=bc Rz
def Nv:bK:=[(80,sK)]
def Fc:aR aa.prog Nv:=an ⟨rV,aA⟩
def wa:DA [.inr [.int,.bn]]->(DV->Prop)->Prop:=λ⟨⟨r,l,_⟩,_⟩K=>K (.l (.v (.bool (jJ r l))))
def M3:fi aa.prog 117 [.inr [.int,.bn]] wa:=by
 apply aV (TR:=eT) aJ au Fc (Rn.fM func117) rfl;rintro⟨⟨r,l,_⟩,_⟩K hK⟨⟨_,a,_⟩,_⟩;dsimp only[wa]at hK;repeat'(conv=>whnf);first|apply U0;exact gS|apply gU;exact gA|refine gB ?_ ?_<;>intro b h<;>try exact bG
 all_goals(apply gI hK;repeat' first|exact gR|apply U0);simp[jJ, *]
def Dy:CS:=cz [.inr [.int,.bn]] wa
def JI:bF aa.prog 117 Dy:=bc M3
def zcy:bK:=[]
def Ul:aR aa.prog zcy:=an trivial
def PN:DA [.inl .int,.inl .int,.inl .int]->(DV->Prop)->Prop:=λ⟨x,a,b,_⟩K=>K (.l (.v (.bool (decide (a<=x)&&decide (x<=b)))))
def zcs:fi aa.prog 89 [.inl .int,.inl .int,.inl .int] PN:=by
 apply aV (TR:=eT) aJ au Ul (Rn.fM func89) rfl;rintro⟨x,a,b,_⟩K hK _;dsimp only[PN]at hK;repeat'(conv=>whnf);first|apply U0;exact gS|apply gU;exact gA|refine gB ?_ ?_<;>intro c h<;>try exact bG
 all_goals(apply gI hK;repeat' first|exact gR|apply U0);simp[*]
def jf:CS:=cz [.inl .int,.inl .int,.inl .int] PN
def eZ:bF aa.prog 89 jf:=bc zcs
def Ug:bK:=[(89,jf)]
def KS:aR aa.prog Ug:=an ⟨eZ,aA⟩
def Bd:DA [.inl .bn]->(DV->Prop)->Prop:=λ⟨l,_⟩K=>K (.l (.v (.bool (iw l))))
def TL:fi aa.prog 94 [.inl .bn] Bd:=by
 apply aV (TR:=eT) aJ au KS (Rn.fM func94) rfl;rintro⟨l,_⟩K hK⟨c,_⟩;dsimp only[Bd]at hK;have c:=gl l c;repeat'(conv=>whnf);first|apply U0;exact gS|apply gB<;>intro b h<;>try exact bG
 apply dt.mI {k:Nat//k<=l.length/\iw (l.take k)=E} (λ⟨k,_⟩=>[(3,.l (.v (.int .i64 k)))]) (λ_=>[]) (λ⟨k,_⟩=>l.length-k) ⟨0,a7 _,rfl⟩ [];·(repeat'(first|(apply U0;exact gV)|exact aA))
 rintro⟨k,e,a⟩;repeat'(conv=>whnf);first|apply U0;exact gS|refine gB ?_ ?_<;>intro b h<;>try exact bG
 ·(apply gI hK;repeat' first|exact gR|apply U0);exact(tE l k Y0 (by grind[ed])).symm
 .have d:iw (l.take (k+1))=E:=by simp_all[tO,ed]
  (refine ae ⟨k+1,Y0,d⟩ (ae [] (aB ?_ ?_)));.grind
  ·(repeat'(first|(apply U0;exact gV)|exact aA))
 ·(apply gI hK;repeat' first|exact gR|apply U0);grind
def vk:CS:=cz [.inl .bn] Bd
def tR:bF aa.prog 94 vk:=bc TL
def H8:bK:=[]
def B3:aR aa.prog H8:=an trivial
def r5:DA [.inr [.int,.int,.int]]->(DV->Prop)->Prop:=λ⟨⟨f,a,b,_⟩,_⟩K=>K (.l (.v (.bool (Af ⟨f,a,b⟩))))
def H0:fi aa.prog 71 [.inr [.int,.int,.int]] r5:=by
 refine aV (TR:=eT) aJ au B3 (Rn.fM func71) rfl ?_;rintro⟨⟨(f:Int),(a:Int),(c:Int),_⟩,_⟩K hK _;dsimp only[r5]at hK;repeat'(conv=>whnf);first|refine U0 ?_ ?_;exact gS|refine U1 ?_|apply gU;exact gA|refine gB ?_ ?_<;>intro b h<;>try exact bG
 all_goals(refine gI hK ?_;repeat' first|exact gR|refine U0 ?_ ?_);first|exact(zeu Y0).symm|(simp[Af, *]<;>omega)
def rU:CS:=cz [.inr [.int,.int,.int]] r5
def uB:bF aa.prog 71 rU:=bc H0
def It:bK:=[(89,jf)]
def Cb:aR aa.prog It:=an ⟨eZ,aA⟩
def r7:DA [.inr [.int,.int,.int]]->(DV->Prop)->Prop:=λ⟨⟨f,a,b,_⟩,_⟩K=>K (.l (.v (.bool (Af ⟨f,a,b⟩))))
def H5:fi aa.prog 88 [.inr [.int,.int,.int]] r7:=by
 refine aV (TR:=eT) aJ au Cb (Rn.fM func88) rfl ?_;rintro⟨⟨(f:Int),(a:Int),(c:Int),_⟩,_⟩K hK _;dsimp only[r7]at hK;repeat'(conv=>whnf);first|refine U0 ?_ ?_;exact gS|refine U1 ?_|apply gU;exact gA|refine gB ?_ ?_<;>intro b h<;>try exact bG
 all_goals(refine gI hK ?_;repeat' first|exact gR|refine U0 ?_ ?_);first|exact(zeu Y0).symm|(simp[Af, *]<;>omega)|(simp_all[Af]<;>omega)
def rX:CS:=cz [.inr [.int,.int,.int]] r7
def uE:bF aa.prog 88 rX:=bc H5
def Kf:bK:=[(71,rU)]
def Da:aR aa.prog Kf:=an ⟨uB,aA⟩
def tV:DA [.inr [.int,.int,.int]]->(DV->Prop)->Prop:=λ⟨⟨f,a,b,_⟩,_⟩K=>K (.l (.v (.int .i64 (Wq ⟨f,a,b⟩))))
def JY:fi aa.prog 237 [.inr [.int,.int,.int]] tV:=by
 refine aV (TR:=eT) aJ au Da (Rn.fM func237) rfl ?_;rintro⟨⟨(f:Int),(a:Int),(d:Int),_⟩,_⟩K hK _;dsimp only[tV]at hK;refine eK (p:=Af ⟨f,a,d⟩=E) (λv=>?_) (λv=>?_)
 .have b:=x5 v;dsimp only at b;repeat'(conv=>whnf);first|refine U0 ?_ ?_;exact gS|refine U1 ?_|apply gU;exact gA|refine gB ?_ ?_<;>intro c h<;>try exact bG
  all_goals
   (refine gI hK ?_;repeat' first|exact gR|refine U0 ?_ ?_);simp only[Wq,v,if_true];repeat' split
   all_goals omega
 .replace v:Af ⟨f,a,d⟩=H:=by simpa using v
  repeat'(conv=>whnf);first|refine U0 ?_ ?_;exact gS|refine U1 ?_|apply gU;exact gA|refine gB ?_ ?_<;>intro c h<;>try exact bG
  (refine gI hK ?_;repeat' first|exact gR|refine U0 ?_ ?_);simp[Wq,v]
def Bv:CS:=cz [.inr [.int,.int,.int]] tV
def HI:bF aa.prog 237 Bv:=bc JY
def Ku:bK:=[(88,rX)]
def Dl:aR aa.prog Ku:=an ⟨uE,aA⟩
def uh:DA [.inr [.int,.int,.int]]->(DV->Prop)->Prop:=λ⟨⟨f,a,b,_⟩,_⟩K=>K (.l (.v (.int .i64 (Wq ⟨f,a,b⟩))))
def J9:fi aa.prog 187 [.inr [.int,.int,.int]] uh:=by
 refine aV (TR:=eT) aJ au Dl (Rn.fM func187) rfl ?_;rintro⟨⟨(f:Int),(a:Int),(d:Int),_⟩,_⟩K hK _;dsimp only[uh]at hK;refine eK (p:=Af ⟨f,a,d⟩=E) (λv=>?_) (λv=>?_)
 .have b:=x5 v;dsimp only at b;repeat'(conv=>whnf);first|refine U0 ?_ ?_;exact gS|refine U1 ?_|apply gU;exact gA|refine gB ?_ ?_<;>intro c h<;>try exact bG
  all_goals
   (refine gI hK ?_;repeat' first|exact gR|refine U0 ?_ ?_);simp only[Wq,v,if_true];repeat' split
   all_goals omega
 .replace v:Af ⟨f,a,d⟩=H:=by simpa using v
  repeat'(conv=>whnf);first|refine U0 ?_ ?_;exact gS|refine U1 ?_|apply gU;exact gA|refine gB ?_ ?_<;>intro c h<;>try exact bG
  (refine gI hK ?_;repeat' first|exact gR|refine U0 ?_ ?_);simp[Wq,v]
def BF:CS:=cz [.inr [.int,.int,.int]] uh
def HU:bF aa.prog 187 BF:=bc J9
def xI:bK:=[]
def Dh:aR aa.prog xI:=an trivial
def N7:Nat->Tr:=λn=>match n with|1=>iu [0,0,1,0,2,0,3,0,4,0,5,0,6,0,7,0,8,0,9,0,10,1,11,1,12,1,13,1,14,1,15,2] .nil|_=>.nil
def oZ:CS:=FQ fQ xI N7 f191
def pn:bF aa.prog 191 oZ:=eP aJ au Dh (Rn.fM func191)
def RV:bK:=[(191,oZ)]
def Ia:aR aa.prog RV:=an ⟨pn,aA⟩
def Ux:Nat->Tr:=λn=>match n with|5=>iu [0,0,1,0,2,0,3,0,4,1,5,1,6,1,7,1] .nil|7=>iu [0,0,1,0,2,1,3,1,4,1,5,1,6,2] .nil|_=>.nil
def yB:DA [.inr [.bool,.bool,.bool,.bool],.inl .bool,.inl .bool]->(DV->Prop)->Prop:=λ⟨⟨e,c,m,b,_⟩,f,h,_⟩K=>K (.a (UL.d (O0 ⟨e,c,m,b⟩ f h)))
def Rs:fi aa.prog 147 [.inr [.bool,.bool,.bool,.bool],.inl .bool,.inl .bool] yB:=by
 refine aV (TR:=Ux) aJ au Ia (Rn.fM func147) rfl ?_;dsimp only[DA,HL,Sh.T];rintro⟨⟨e,m,a,b,_⟩,f,c,_⟩K hK _;dsimp only[yB]at hK;repeat'(conv=>whnf);first|refine U0 ?_ ?_;exact gS|refine U1 ?_|apply gU;exact gA|refine gB ?_ ?_<;>intro d h<;>try exact bG
 refine dt.it 3 ?_;repeat'(conv=>whnf);first|refine U0 ?_ ?_;exact gS|refine U1 ?_|apply gU;exact gA|refine gB ?_ ?_<;>intro d h<;>try exact bG
 all_goals(refine gI hK ?_;repeat' first|exact gR|refine U0 ?_ ?_);all_goals(clear hK;first|(simp_all[O0];done)|(cases e<;>cases f<;>cases m<;>cases c<;>simp_all[O0]))
def G7:CS:=cz [.inr [.bool,.bool,.bool,.bool],.inl .bool,.inl .bool] yB
def MJ:bF aa.prog 147 G7:=bc Rs
def Si:bK:=[]
def Iu:aR aa.prog Si:=an trivial
def yJ:DA [.inr [.bool,.bool,.bool,.bool],.inl .bool,.inl .bool]->(DV->Prop)->Prop:=λ⟨⟨e,c,m,b,_⟩,f,h,_⟩K=>K (.a (UL.d (O0 ⟨e,c,m,b⟩ f h)))
def RG:fi aa.prog 175 [.inr [.bool,.bool,.bool,.bool],.inl .bool,.inl .bool] yJ:=by
 refine aV (TR:=eT) aJ au Iu (Rn.fM func175) rfl ?_;dsimp only[DA,HL,Sh.T];rintro⟨⟨e,m,a,b,_⟩,f,c,_⟩K hK _;dsimp only[yJ]at hK;repeat'(conv=>whnf);first|refine U0 ?_ ?_;exact gS|refine U1 ?_|apply gU;exact gA|refine gB ?_ ?_<;>intro d h<;>try exact bG
 all_goals(refine gI hK ?_;repeat' first|exact gR|refine U0 ?_ ?_);all_goals(clear hK;first|(simp_all[O0];done)|(cases e<;>cases f<;>cases m<;>cases c<;>simp_all[O0]))
def Hg:CS:=cz [.inr [.bool,.bool,.bool,.bool],.inl .bool,.inl .bool] yJ
def MS:bF aa.prog 175 Hg:=bc RG
def Ny:bK:=[(191,oZ)]
def Fg:aR aa.prog Ny:=an ⟨pn,aA⟩
def wh:DA [.inr [.bool,.bool,.bool,.bool]]->(DV->Prop)->Prop:=λ⟨⟨c,b,m,a,_⟩,_⟩K=>K (.t [.inr (UL.d (WZ ⟨c,b,m,a⟩)),.inl (.v (.int .i64 (Ar ⟨c,b,m,a⟩)))])
def M5:fi aa.prog 238 [.inr [.bool,.bool,.bool,.bool]] wh:=by
 refine aV (TR:=eT) aJ au Fg (Rn.fM func238) rfl ?_;dsimp only[DA,HL,Sh.T];rintro⟨⟨e,c,m,a,_⟩,_⟩K hK _;dsimp only[wh]at hK;repeat'(conv=>whnf);first|refine U0 ?_ ?_;exact gS|refine U1 ?_|apply gU;exact gA|refine gB ?_ ?_<;>intro b h<;>try exact bG
 refine dt.it 3 ?_;repeat'(conv=>whnf);first|refine U0 ?_ ?_;exact gS|refine U1 ?_|apply gU;exact gA|refine gB ?_ ?_<;>intro b h<;>try exact bG
 all_goals(refine gI hK ?_;repeat' first|exact gR|refine U0 ?_ ?_);all_goals(clear hK;first|(simp_all[Ar];done)|(subst_vars;decide))
def Dz:CS:=cz [.inr [.bool,.bool,.bool,.bool]] wh
def JJ:bF aa.prog 238 Dz:=bc M5
def NM:bK:=[]
def Fx:aR aa.prog NM:=an trivial
def wB:DA [.inr [.bool,.bool,.bool,.bool]]->(DV->Prop)->Prop:=λ⟨⟨c,b,m,a,_⟩,_⟩K=>K (.t [.inr (UL.d (WZ ⟨c,b,m,a⟩)),.inl (.v (.int .i64 (Ar ⟨c,b,m,a⟩)))])
def Nh:fi aa.prog 188 [.inr [.bool,.bool,.bool,.bool]] wB:=by
 refine aV (TR:=eT) aJ au Fx (Rn.fM func188) rfl ?_;dsimp only[DA,HL,Sh.T];rintro⟨⟨e,b,m,a,_⟩,_⟩K hK _;dsimp only[wB]at hK;repeat'(conv=>whnf);first|refine U0 ?_ ?_;exact gS|refine U1 ?_|apply gU;exact gA|refine gB ?_ ?_<;>intro c h<;>try exact bG
 all_goals(refine gI hK ?_;repeat' first|exact gR|refine U0 ?_ ?_);all_goals(clear hK;first|(simp_all[Ar];done)|(subst_vars;decide))
def DI:CS:=cz [.inr [.bool,.bool,.bool,.bool]] wB
def JP:bF aa.prog 188 DI:=bc Nh
def Ff:bK:=[(191,oZ)]
def zT:aR aa.prog Ff:=an ⟨pn,aA⟩
def qq:DA [.inr [.bool,.bool,.bool,.bool]]->(DV->Prop)->Prop:=λ⟨⟨c,b,m,a,_⟩,_⟩K=>K (.l (.v (.bool (OK ⟨c,b,m,a⟩))))
def E9:fi aa.prog 202 [.inr [.bool,.bool,.bool,.bool]] qq:=by
 refine aV (TR:=eT) aJ au zT (Rn.fM func202) rfl ?_;dsimp only[DA,HL,Sh.T];rintro⟨⟨e,c,m,a,_⟩,_⟩K hK _;dsimp only[qq]at hK;repeat'(conv=>whnf);first|refine U0 ?_ ?_;exact gS|refine U1 ?_|apply gU;exact gA|refine gB ?_ ?_<;>intro b h<;>try exact bG
 refine dt.it 3 ?_;repeat'(conv=>whnf);first|refine U0 ?_ ?_;exact gS|refine U1 ?_|apply gU;exact gA|refine gB ?_ ?_<;>intro b h<;>try exact bG
 all_goals(refine gI hK ?_;repeat' first|exact gR|refine U0 ?_ ?_);all_goals(clear hK;simp_all[OK];done)
def xC:CS:=cz [.inr [.bool,.bool,.bool,.bool]] qq
def C4:bF aa.prog 202 xC:=bc E9
def Fw:bK:=[]
def zY:aR aa.prog Fw:=an trivial
def qs:DA [.inr [.bool,.bool,.bool,.bool]]->(DV->Prop)->Prop:=λ⟨⟨c,b,m,a,_⟩,_⟩K=>K (.l (.v (.bool (OK ⟨c,b,m,a⟩))))
def Fa:fi aa.prog 183 [.inr [.bool,.bool,.bool,.bool]] qs:=by
 refine aV (TR:=eT) aJ au zY (Rn.fM func183) rfl ?_;dsimp only[DA,HL,Sh.T];rintro⟨⟨e,b,m,a,_⟩,_⟩K hK _;dsimp only[qs]at hK;repeat'(conv=>whnf);first|refine U0 ?_ ?_;exact gS|refine U1 ?_|apply gU;exact gA|refine gB ?_ ?_<;>intro c h<;>try exact bG
 all_goals(refine gI hK ?_;repeat' first|exact gR|refine U0 ?_ ?_);all_goals(clear hK;simp_all[OK];done)
def xF:CS:=cz [.inr [.bool,.bool,.bool,.bool]] qs
def C6:bF aa.prog 183 xF:=bc Fa
def yY(n:Option Nat):Y:=.pointer (n.map λn=>⟨n,0,U⟩)
def lO(w:V):List Nat->List (Int×Int)->Prop|[],[]=>True|n::a,g::gs=>w.heap[n]?=C (.cells #[.int .i64 g.1,.int .i64 g.2,yY a.head?] 251 (0,0))/\lO w a gs|_,_=>False
def lO.len{w:V}:∀{zDL:List Nat}{l:List (Int×Int)},lO w zDL l->zDL.length=l.length|[],[],_=>rfl|_::zDL,_::l,h=>by simp[lO.len h.2]|[],_::_,h=>h.elim|_::_,[],h=>h.elim
def lO.s4{w w':V}:∀{zDL:List Nat}{l:List (Int×Int)},lO w zDL l->(∀n∈zDL,w'.heap[n]?=w.heap[n]?)->lO w' zDL l|[],[],_,_=>trivial|n::zDL,_::l,h,k=>⟨(k n Y1).trans h.1,lO.s4 h.2 λm a=>k m (by simp[a])⟩|[],_::_,h,_=>h.elim|_::_,[],h,_=>h.elim
def lO.lt{w:V}:∀{zDL:List Nat}{l:List (Int×Int)},lO w zDL l->∀n∈zDL,n<w.heap.size
 |[],[],_,_,b=>by cases b|n::zDL,_::l,h,m,a=>by
  rcases bq.1 a with rfl|a;.exact(ab.1 h.1).1
  .exact lO.lt h.2 m a|[],_::_,h,_,_=>h.elim|_::_,[],h,_,_=>h.elim
def lO.last{w:V}{m:Nat}:∀{zDL:List Nat}{l:List (Int×Int)},lO w (zDL++[m]) l->∃a b,w.heap[m]?=C (.cells #[.int .i64 a,.int .i64 b,.pointer U] 251 (0,0))|[],[],h=>h.elim|[],g::l,h=>⟨g.1,g.2,h.1⟩|_::zDL,[],h=>h.elim|_::zDL,_::l,h=>lO.last h.2
def lO.zfA{w f:V}{m n:Nat}{g:Int×Int}(i:f.heap[n]?=C (.cells #[.int .i64 g.1,.int .i64 g.2,.pointer U] 251 (0,0)))(d:∀a b,w.heap[m]?=C (.cells #[.int .i64 a,.int .i64 b,.pointer U] 251 (0,0))->f.heap[m]?=C (.cells #[.int .i64 a,.int .i64 b,.pointer (C ⟨n,0,U⟩)] 251 (0,0))):∀{zDL:List Nat}{l:List (Int×Int)},lO w (zDL++[m]) l->(∀b∈zDL,f.heap[b]?=w.heap[b]?)->lO f (zDL++[m,n]) (l++[g])|[],[],h,_=>h.elim|[],g0::[],h,_=>⟨d _ _ h.1,i,aA⟩|[],g0::_::_,h,_=>h.2.elim|_::zDL,[],h,_=>h.elim|b::zDL,g0::l,h,k=>by refine⟨?_,lO.zfA i d h.2 λc j=>k c (by simp[j])⟩;have e:(zDL.append [m,n]).head?=(zDL++[m]).head?:=Y7;rw[e,k b Y1];exact h.1
def GL(w:V)(B r:Nat)(l:List (Int×Int)):Prop:=∃a:List Nat,w.heap[r]?=C (.cells #[yY a.head?,yY a.getLast?,.int .i64 l.length] 229 (0,0))/\lO w a l/\a.Nodup/\(∀n∈a,B<=n/\n≠r)/\B<=r
def GL.s4{w w':V}{B r:Nat}{l:List (Int×Int)}(h:GL w B r l)(k:∀b,B<=b->b<w.heap.size->w'.heap[b]?=w.heap[b]?):GL w' B r l:=by have⟨f,a,c,g,d,e⟩:=h;exact⟨f,(k r e (ab.1 a).1).trans a,c.s4 λn i=>k n (d n i).1 (c.lt n i),g,d,e⟩
variable{w:V}{r:Nat}
def GL.lt{B:Nat}(h:GL w B r l):B<=r/\r<w.heap.size:=by have⟨n,a,c,d,e,b⟩:=h;grind
def GL.below{d:V}{B:Nat}(h:GL w B r l)(c:cj w.heap.size w d):GL d B r l:=h.s4 λb _ a=>c.block b a
def GL.mono{B a:Nat}(h:GL w B r l)(g:a<=B):GL w a r l:=by have⟨c,d,e,f,b,i⟩:=h;exact⟨c,d,e,f,λn j=>⟨Y8,(b n j).2⟩,Y0⟩
variable{β:List En}{k:Nat}
def OT{j:Cx}{p:Hp}(I:Ab.ki j β p w){l:List LV}{T:ah}(h:p[k]?=C (.b l T)):∃n u,β[k]?=C (.b n)/\(j.w0.heap.size<=n\/n∈j.M)/\w.heap[n]?=C (.cells u T (0,0))/\gi j β l u.toList:=by have c:=(bQ.1 h).1;have a:β[k]?=C (β[k]'(by rw[I.len];exact c)):=Y7;have o:=I.Ds k _ _ h a;generalize β[k]'Y8=e at a o;cases e with|b n=>have⟨d,u,f,g⟩:=o;simp_all|r v i=>cases o|x=>cases o
def zbX{e:Cx}{p:Hp}(I:Ab.ki e β p w){i n m:Nat}{f g:List LV}{T d:ah}(j:p[i]?=C (.b f T))(a:p[k]?=C (.b g d))(l:β[i]?=C (.b n))(c:β[k]?=C (.b m))(h:i≠k):n≠m:=by rintro rfl;exact h (I.dis i k n (by rw[dK j l];rfl) (by rw[dK a c];rfl))
variable{u:Array Y}
def lc3{g:Cx}{a b c:LV}(h:gi g β [a,b,c] u.toList):∃x y z,u=#[x,y,z]/\LC g β a x/\LC g β b y/\LC g β c z:=by cases hu:u.toList with|nil=>rw[hu]at h;cases h|cons x r=>rw[hu]at h;match r,h with|[y,z],⟨d,e,f,_⟩=>grind
variable{v:Y}
def lcp{c:Cx}{o n:Nat}(h:LC c β (.p k o) v)(d:β[k]?=C (.b n)):v=.pointer (C ⟨n,o,U⟩):=by have⟨_,m,a,e⟩:=h;rw[d]at a;obtain rfl:n=m:=Y7;exact e
def UN{c:Cx}{x:Y}(h:LC c β (.v x) v):v=x:=h.2
def zud{cs:List LV}{T:ah}(c:w.heap[r]?=C (.cells u T (0,0)))(g:gi ⟨w,[r]⟩ [.b r] cs u.toList):Ab.ki ⟨w,[r]⟩ [.b r] [.b cs T] w:=by
 refine⟨uO.refl _ _,rfl,λk t e h a=>?_,λi k b h a=>?_⟩;.cases k with|succ k=>simp at h|zero=>simp[bz,ay]at h a;subst h a;exact⟨.inr Y1,_,c,g⟩
 .have⟨_,_,d,_,_⟩:=ix h;have⟨_,_,f,_,_⟩:=ix a;have:=(bQ.1 d).1;have:=(bQ.1 f).1;simp at*;omega
def zqN{m:Nat}{cs ds:List LV}{v:Array Y}{T g:ah}(n:r≠m)(d:w.heap[r]?=C (.cells u T (0,0)))(l:w.heap[m]?=C (.cells v g (0,0)))(o:gi ⟨w,[r,m]⟩ [.b r,.b m] cs u.toList)(f:gi ⟨w,[r,m]⟩ [.b r,.b m] ds v.toList):Ab.ki ⟨w,[r,m]⟩ [.b r,.b m] [.b cs T,.b ds g] w:=by
 refine⟨uO.refl _ _,rfl,λk t e a c=>?_,λi k b a c=>?_⟩;.match k with|0=>simp[bz,ay]at a c;subst a c;exact⟨.inr Y1,_,d,o⟩|1=>simp[List.getElem?_cons_succ,bz,ay]at a c;subst a c;exact⟨.inr Y1,_,l,f⟩|k+2=>simp at a
 .have j:∀i b,cN [.b cs T,.b ds g] [.b r,.b m] i=C b->(i=0/\b=r)\/(i=1/\b=m):=by intro i b h;match i with|0=>exact .inl ⟨rfl,by simpa[cN,nG,eq_comm]using h⟩|1=>exact .inr ⟨rfl,by simpa[cN,nG,eq_comm]using h⟩|i+2=>simp[cN]at h
  rcases j i b a with⟨rfl,rfl⟩|⟨rfl,rfl⟩<;>rcases j k _ c with⟨rfl,h⟩|⟨rfl,h⟩;.rfl
  .cases n h
  .omega
  .rfl
def Ii:bK:=[]
def rM:aR aa.prog Ii:=an trivial
def zj7(r:Nat)(g:Int×Int)(w:V)(c:w.heap[r]?=C (.cells #[.pointer U,.pointer U,.int .i64 0] 229 (0,0))):dE aa.prog 190 #[.pointer (C ⟨r,0,U⟩),.agg #[.int .i64 g.1,.int .i64 g.2]] w λe w'=>e=.returned (.tuple #[])/\∃n,w.heap.size<=n/\w'.heap[r]?=C (.cells #[.pointer (C ⟨n,0,U⟩),.pointer (C ⟨n,0,U⟩),.int .i64 1] 229 (0,0))/\w'.heap[n]?=C (.cells #[.int .i64 g.1,.int .i64 g.2,.pointer U] 251 (0,0))/\uO (λb=>b=r) w w':=by
 have R:=zud (cs:=[.v (.pointer U),.v (.pointer U),.v (.int .i64 0)]) c ⟨⟨rfl,rfl⟩,⟨rfl,rfl⟩,⟨rfl,rfl⟩,aA⟩;refine b9 (jx (W0:=[]) (TR:=eT) (K:=λx S=>x=.t []/\∃T,S=[.b [.p 2 0,.p 2 0,.v (.int .i64 1)] 229,.b [.v (.int .i64 g.1),.v (.int .i64 g.2)] T,.b [.v (.int .i64 g.1),.v (.int .i64 g.2),.v (.pointer U)] 251]) aJ au ⟨rM,.inl rfl⟩ (Rn.fM func190) R (xs:=[.l (.p 0 0),.a [.v (.int .i64 g.1),.v (.int .i64 g.2)]]) ⟨⟨rfl,r,rfl,rfl⟩,⟨_,rfl,⟨rfl,rfl⟩,⟨rfl,rfl⟩,aA⟩,aA⟩ gK ?_) ?_
 .repeat'(conv=>whnf);first|apply U0;exact gS|apply gU;exact gA|refineλ(y:Int)(h:0<=y)F=>?_
  all_goals exact⟨rfl,_,rfl⟩
 .rintro e w'⟨u,x,W,bR,rfl,⟨rfl,T,rfl⟩,m,I,L⟩;have⟨n,us,J,j,M,X⟩:=OT I (k:=2) rfl;have⟨r',o,N,f2,O,Z⟩:=OT I (k:=0) rfl;have f:=L.ext 0 (.b r) Y1 rfl;rw[f]at N;obtain rfl:r=r':=by simpa using N
  have q:=zbX I rfl rfl J f Y0;obtain⟨x,y,z,rfl,x1,s,A⟩:=lc3 Z;obtain⟨x',G,z',rfl,B,i,D⟩:=lc3 X;rw[lcp x1 J,lcp s J,UN A]at O;rw[UN B,UN i,UN D]at M;obtain⟨P,rfl,d⟩:=m;have:P=#[]:=by cases Q:P.toList with|nil=>exact bj.1 Q|cons _ _=>rw[Q]at d;cases d
  subst this;refine⟨rfl,n,?_,O,M,?_⟩
  .rcases j with j|j;.exact j
   .simp at j;omega
  .exact I.kp.mono λb _ c=>by simpa using c
def zf7(r m:Nat)(d:Y)(c:Nat)(a b:Int)(g:Int×Int)(w:V)(o:r≠m)(hp0:d.oneCell'=E)(hc:c<=1099511627776)(f:w.heap[r]?=C (.cells #[d,.pointer (C ⟨m,0,U⟩),.int .i64 c] 229 (0,0)))(q:w.heap[m]?=C (.cells #[.int .i64 a,.int .i64 b,.pointer U] 251 (0,0))):dE aa.prog 190 #[.pointer (C ⟨r,0,U⟩),.agg #[.int .i64 g.1,.int .i64 g.2]] w λe w'=>e=.returned (.tuple #[])/\∃n,w.heap.size<=n/\w'.heap[r]?=C (.cells #[d,.pointer (C ⟨n,0,U⟩),.int .i64 ((c:Int)+1)] 229 (0,0))/\w'.heap[m]?=C (.cells #[.int .i64 a,.int .i64 b,.pointer (C ⟨n,0,U⟩)] 251 (0,0))/\w'.heap[n]?=C (.cells #[.int .i64 g.1,.int .i64 g.2,.pointer U] 251 (0,0))/\uO (λb=>b=r\/b=m) w w':=by
 have h:=(ab.1 q).1;refine b9 (jx (W0:=[]) (TR:=eT) (K:=λx hp=>x=.t []/\∃T,hp=[.b [.v d,.p 3 0,.v (.int .i64 ((c:Int)+1))] 229,.b [.v (.int .i64 a),.v (.int .i64 b),.p 3 0] 251,.b [.v (.int .i64 g.1),.v (.int .i64 g.2)] T,.b [.v (.int .i64 g.1),.v (.int .i64 g.2),.v (.pointer U)] 251]) aJ au ⟨rM,.inl rfl⟩ (Rn.fM func190) (zqN (cs:=[.v d,.p 1 0,.v (.int .i64 c)]) (ds:=[.v (.int .i64 a),.v (.int .i64 b),.v (.pointer U)]) o f q ⟨⟨hp0,rfl⟩,⟨rfl,m,rfl,rfl⟩,⟨rfl,rfl⟩,aA⟩ ⟨⟨rfl,rfl⟩,⟨rfl,rfl⟩,⟨rfl,rfl⟩,aA⟩) (xs:=[.l (.p 0 0),.a [.v (.int .i64 g.1),.v (.int .i64 g.2)]]) ⟨⟨rfl,r,rfl,rfl⟩,⟨_,rfl,⟨rfl,rfl⟩,⟨rfl,rfl⟩,aA⟩,aA⟩ gK ?_) ?_
 .repeat'(conv=>whnf);first|apply U0;exact gS|apply gU;exact gA|refineλ(y:Int)(W:0<=y)X=>?_
  all_goals exact⟨rfl,_,rfl⟩
 .rintro e w'⟨u,x,dF,bR,rfl,⟨rfl,T,rfl⟩,F,I,L⟩;have⟨n,us,g1,g2,g3,g4⟩:=OT I (k:=3) rfl;have⟨r',G,f1,f2,f3,f4⟩:=OT I (k:=0) rfl;have⟨m',i,k1,D,k3,J⟩:=OT I (k:=1) rfl;have s:=L.ext 0 (.b r) Y1 rfl;have A:=L.ext 1 (.b m) Y1 rfl;rw[s]at f1;obtain rfl:r=r':=by simpa using f1
  rw[A]at k1;obtain rfl:m=m':=by simpa using k1
  have B:=zbX I rfl rfl g1 s Y0;have Q0:=zbX I rfl rfl g1 A Y0;obtain⟨x,y,z,rfl,x1,M,N⟩:=lc3 f4;obtain⟨x',Z,z',rfl,O,P,Q⟩:=lc3 g4;obtain⟨R,S,Q1,rfl,Q2,z2,z3⟩:=lc3 J;rw[UN x1,lcp M g1,UN N]at f3;rw[UN O,UN P,UN Q]at g3;rw[UN Q2,UN z2,lcp z3 g1]at k3;obtain⟨vs,rfl,j⟩:=F;have:vs=#[]:=by cases hv:vs.toList with|nil=>exact bj.1 hv|cons _ _=>rw[hv]at j;cases j
  subst this;refine⟨rfl,n,?_,f3,k3,g3,?_⟩
  .rcases g2 with g2|g2;.exact g2
   .simp at g2;omega
  .exact I.kp.mono λb _ f=>by simpa using f
def lc2{e:Cx}{a b:LV}(h:gi e β [a,b] u.toList):∃x y,u=#[x,y]/\LC e β a x/\LC e β b y:=by cases hu:u.toList with|nil=>rw[hu]at h;cases h|cons x r=>rw[hu]at h;match r,h with|[y],⟨c,d,_⟩=>grind
def ziz{k:Cx}{b:Int}{t:Bool}{u:Y}(h:AC k β (.t [.inr [.v (.int .i64 a),.v (.int .i64 b)],.inl (.v (.bool t))]) u):u=.tuple #[.agg #[.int .i64 a,.int .i64 b],.bool t]:=by obtain⟨j,rfl,h⟩:=h;cases i:j.toList with |nil=>rw[i]at h;cases h|cons x r=>rw[i]at h;match r,h with|[y],⟨⟨us,e,c⟩,d,_⟩=>obtain⟨p,q,rfl,f,g⟩:=lc2 c;rw[UN f,UN g]at e;rw[show j=#[x,y]from bj.1 i,e,UN d]
def Fs:bK:=[]
def lx:aR aa.prog Fs:=an trivial
def zcC(r:Nat)(w:V)(a:w.heap[r]?=C (.cells #[.pointer U,.pointer U,.int .i64 0] 229 (0,0))):dE aa.prog 244 #[.pointer (C ⟨r,0,U⟩)] w λe w'=>e=.returned (.tuple #[.agg #[.int .i64 0,.int .i64 0],.bool H])/\uO (λb=>b=r) w w':=by
 refine b9 (jx (W0:=[]) (TR:=eT) (K:=λx g=>x=.t [.inr [.v (.int .i64 0),.v (.int .i64 0)],.inl (.v (.bool H))]) aJ au ⟨lx,.inl rfl⟩ (Rn.fM func244) (zud (cs:=[.v (.pointer U),.v (.pointer U),.v (.int .i64 0)]) a ⟨⟨rfl,rfl⟩,⟨rfl,rfl⟩,⟨rfl,rfl⟩,aA⟩) (xs:=[.l (.p 0 0)]) ⟨⟨rfl,r,rfl,rfl⟩,aA⟩ gK ?_) ?_
 .repeat'(conv=>whnf);first|apply U0;exact gS|apply gU;exact gA|refineλ(y:Int)(d:0<=y)f=>?_
  all_goals rfl
 .rintro e w'⟨u,x,h,bR,rfl,rfl,c,I,L⟩;exact⟨by rw[ziz c],I.kp.mono λb _ a=>Y7⟩
def zf9(r m:Nat)(c:Nat)(a b:Int)(w:V)(n:r≠m)(N:c<=1099511627776)(d:w.heap[r]?=C (.cells #[.pointer (C ⟨m,0,U⟩),.pointer (C ⟨m,0,U⟩),.int .i64 ((c:Int)+1)] 229 (0,0)))(i:w.heap[m]?=C (.cells #[.int .i64 a,.int .i64 b,.pointer U] 251 (0,0))):dE aa.prog 244 #[.pointer (C ⟨r,0,U⟩)] w λe w'=>e=.returned (.tuple #[.agg #[.int .i64 a,.int .i64 b],.bool E])/\w'.heap[r]?=C (.cells #[.pointer U,.pointer U,.int .i64 ((c:Int)+1-1)] 229 (0,0))/\(∀q,q<w.heap.size->q≠r->q≠m->w'.heap[q]?=w.heap[q]?)/\uO (λb=>b=r\/b=m) w w':=by
 refine b9 (jx (W0:=[]) (TR:=eT) (K:=λx s=>x=.t [.inr [.v (.int .i64 a),.v (.int .i64 b)],.inl (.v (.bool E))]/\s[0]?=C (.b [.v (.pointer U),.v (.pointer U),.v (.int .i64 ((c:Int)+1-1))] 229)) aJ au ⟨lx,.inl rfl⟩ (Rn.fM func244) (zqN (cs:=[.p 1 0,.p 1 0,.v (.int .i64 ((c:Int)+1))]) (ds:=[.v (.int .i64 a),.v (.int .i64 b),.v (.pointer U)]) n d i ⟨⟨rfl,m,rfl,rfl⟩,⟨rfl,m,rfl,rfl⟩,⟨rfl,rfl⟩,aA⟩ ⟨⟨rfl,rfl⟩,⟨rfl,rfl⟩,⟨rfl,rfl⟩,aA⟩) (xs:=[.l (.p 0 0)]) ⟨⟨rfl,r,rfl,rfl⟩,aA⟩ gK ?_) ?_
 .repeat'(conv=>whnf);first|apply U0;exact gS|apply gU;exact gA|refineλ(y:Int)(f:0<=y)g=>?_
  all_goals exact⟨rfl,rfl⟩
 .rintro e w'⟨u,x,F,bR,rfl,⟨rfl,f⟩,j,I,L⟩;have⟨r',o,G,P,k,J⟩:=OT I f;rw[L.ext 0 (.b r) Y1 rfl]at G;obtain rfl:r=r':=Y7;obtain⟨x,y,z,rfl,M,A,B⟩:=lc3 J;rw[UN M,UN A,UN B]at k;exact⟨by rw[ziz j],k,λq h g D=>I.kp.block q h (by simp[g,D]),I.kp.mono λb _ d=>Y7⟩
def zcB(r m n:Nat)(B:Y)(c:Nat)(a b:Int)(w:V)(g:r≠m)(d:B.oneCell'=E)(Q:c<=1099511627776)(f:w.heap[r]?=C (.cells #[.pointer (C ⟨m,0,U⟩),B,.int .i64 ((c:Int)+1)] 229 (0,0)))(o:w.heap[m]?=C (.cells #[.int .i64 a,.int .i64 b,.pointer (C ⟨n,0,U⟩)] 251 (0,0))):dE aa.prog 244 #[.pointer (C ⟨r,0,U⟩)] w λe w'=>e=.returned (.tuple #[.agg #[.int .i64 a,.int .i64 b],.bool E])/\w'.heap[r]?=C (.cells #[.pointer (C ⟨n,0,U⟩),B,.int .i64 ((c:Int)+1-1)] 229 (0,0))/\(∀q,q<w.heap.size->q≠r->q≠m->w'.heap[q]?=w.heap[q]?)/\uO (λb=>b=r\/b=m) w w':=by
 refine b9 (jx (W0:=[]) (TR:=eT) (K:=λx J=>x=.t [.inr [.v (.int .i64 a),.v (.int .i64 b)],.inl (.v (.bool E))]/\J[0]?=C (.b [.v (.pointer (C ⟨n,0,U⟩)),.v B,.v (.int .i64 ((c:Int)+1-1))] 229)) aJ au ⟨lx,.inl rfl⟩ (Rn.fM func244) (zqN (cs:=[.p 1 0,.v B,.v (.int .i64 ((c:Int)+1))]) (ds:=[.v (.int .i64 a),.v (.int .i64 b),.v (.pointer (C ⟨n,0,U⟩))]) g f o ⟨⟨rfl,m,rfl,rfl⟩,⟨d,rfl⟩,⟨rfl,rfl⟩,aA⟩ ⟨⟨rfl,rfl⟩,⟨rfl,rfl⟩,⟨rfl,rfl⟩,aA⟩) (xs:=[.l (.p 0 0)]) ⟨⟨rfl,r,rfl,rfl⟩,aA⟩ gK ?_) ?_
 .repeat'(conv=>whnf);first|apply U0;exact gS|apply gU;exact gA|refineλ(y:Int)(i:0<=y)j=>?_
  all_goals exact⟨rfl,rfl⟩
 .rintro e w'⟨u,x,M,bR,rfl,⟨rfl,i⟩,s,I,L⟩;have⟨r',A,N,S,G,O⟩:=OT I i;rw[L.ext 0 (.b r) Y1 rfl]at N;obtain rfl:r=r':=Y7;obtain⟨x,y,z,rfl,P,h,D⟩:=lc3 O;rw[UN P,UN h,UN D]at G;exact⟨by rw[ziz s],G,λq k j F=>I.kp.block q k (by simp[j,F]),I.kp.mono λb _ f=>Y7⟩
def xo{B:Nat}{w':V}{S:Nat->Prop}(h:uO S w w')(c:B<=w.heap.size)(a:∀b,S b->B<=b):cj B w w':=⟨h.os,h.tape,h.output,h.size,λk d=>h.block k Y0 λe=>Y8⟩
def ZY(r B:Nat)(l:List (Int×Int))(g:Int×Int)(w:V)(h:GL w B r l)(t:B<=w.heap.size)(A:l.length<=1099511627776):dE aa.prog 190 #[.pointer (C ⟨r,0,U⟩),.agg #[.int .i64 g.1,.int .i64 g.2]] w λe w'=>e=.returned (.tuple #[])/\GL w' B r (l++[g])/\cj B w w':=by
 have⟨I,c,M,N,O,P⟩:=h;have D:=(ab.1 c).1;rcases List.eq_nil_or_concat I with rfl|⟨K,m,e⟩
 .have:l=[]:=by have:=M.len;grind
  subst this;apply b9 (zj7 r g w c);rintro e w'⟨rfl,n,J,k,o,p⟩;exact⟨rfl,⟨[n],by simpa[yY]using k,⟨by simpa[yY]using o,aA⟩,Y1,by simp;omega,P⟩,xo p t Y0⟩
 .rw[List.concat_eq_append]at e;subst e;have⟨a,b,u⟩:=M.last;have j:=(O m Y1).2;have q:=(O m Y1).1;have d:(K++[m]).getLast?=C m:=Y1;rw[d]at c;have f:=M.lt;apply b9 (zf7 r m _ l.length a b g w (cA j) (by cases(K++[m]).head?<;>rfl) A c u);rintro e w'⟨rfl,n,J,k,o,p,v⟩;rw[fw]at N;refine⟨rfl,⟨K++[m,n],?_,lO.zfA p (λQ R i=>?_) M (λb c=>?_),?_,?_,P⟩,xo v t Y0⟩
  .have F:(K++[m,n]).head?=(K++[m]).head?:=Y7;have G:(K++[m,n]).getLast?=C n:=Y1;rw[F,G];simpa[yY]using k
  .simp_all
  .exact v.block b (f b (by simp[c])) Y7
  .rw[fw];refine⟨N.1,?_,?_⟩;.grind
   .intro x L y z;have s:=N.2.2 x L m Y1;have:=f x (by simp[L]);simp at z;rcases z with rfl|rfl;.exact s
    .omega
  .intro x L;simp at L;rcases L with L|rfl|rfl;.simp_all
   .omega
   .omega
def zf8(r B:Nat)(w:V)(h:GL w B r [])(a:B<=w.heap.size):dE aa.prog 244 #[.pointer (C ⟨r,0,U⟩)] w λe w'=>e=.returned (.tuple #[.agg #[.int .i64 0,.int .i64 0],.bool H])/\cj B w w':=by have⟨n,c,b,d,f,g⟩:=h;have :=cq b.len;subst this;apply b9 (zcC r w c);rintro e w'⟨rfl,h⟩;exact⟨rfl,xo h a Y0⟩
def zcA(r B:Nat)(g:Int×Int)(l:List (Int×Int))(w:V)(h:GL w B r (g::l))(q:B<=w.heap.size)(t:l.length<=1099511627776):dE aa.prog 244 #[.pointer (C ⟨r,0,U⟩)] w λe w'=>e=.returned (.tuple #[.agg #[.int .i64 g.1,.int .i64 g.2],.bool E])/\GL w' B r l/\cj B w w':=by have⟨c,i,j,z,v,y⟩:=h;match c,j with|n::c,j=>have m:=(v n Y1).2;have u:=(v n Y1).1;have k:(((g::l).length:Nat):Int)=(l.length:Int)+1:=Y1;have d:(l.length:Int)+1-1=(l.length:Int):=Y0;rw[k]at i;match c,l,j with
 |[],[],j=>apply b9 (zf9 r n 0 g.1 g.2 w (cA m) Y0 i j.1);rintro e w'⟨rfl,f,s,o⟩;exact⟨rfl,⟨[],by simpa[yY]using f,aA,Y1,Y1,y⟩,xo o q Y0⟩|[],_::_,j=>cases j.2|p::c,l,j=>
  apply b9 (zcB r n p _ l.length g.1 g.2 w (cA m) (by cases(n::p::c).getLast?<;>rfl) t i j.1);rintro e w'⟨rfl,f,s,o⟩;rw[d]at f;refine⟨rfl,⟨p::c,?_,j.2.s4 λb a=>?_,(List.nodup_cons.1 z).2,λx A=>v x (by simp[A]),y⟩,xo o q Y0⟩
  .rw[List.getLast?_cons_cons]at f;exact f
  .apply s b (j.lt b (by simp[a])) (v b (by simp[a])).2;rintro rfl;simp_all
def kj(w:V)(b:Nat)(v:Y)(l:List (Int×Int)):Prop:=w.ownsRow b 80 2 v l.length (Ab.EL.bC l).di
def kj.form{b:Nat}(h:kj w b v l):∃a c,v=.slice a l.length c:=by
 obtain⟨_,h|⟨g,d,e,h,_⟩⟩:=h;.simp_all
 .simp_all
def zez:(aa.prog.info? 80).map (λi=>(i.zero,i.size,i.bytes))=C (C (.agg #[.int .i64 0,.int .i64 0]),2,16):=gK
def lO.at{w:V}:∀{zDL:List Nat}{l:List (Int×Int)}{k:Nat},lO w zDL l->k<l.length->∃n,(zDL.drop k).head?=C n/\n∈zDL/\w.heap[n]?=C (.cells #[.int .i64 (l.getD k (0,0)).1,.int .i64 (l.getD k (0,0)).2,yY (zDL.drop (k+1)).head?] 251 (0,0))|n::zDL,g::l,0,h,_=>⟨n,rfl,Y1,by simpa using h.1⟩|n::zDL,g::l,k+1,h,a=>by have⟨m,b,c,d⟩:=lO.at (k:=k) h.2 Y7;simp_all|[],[],_,_,a=>by simp at a|[],_::_,_,h,_=>h.elim|_::_,[],_,h,_=>h.elim
def Sl.got(h:Sl w 2 v l.length (Ab.EL.bC l).di):∃a m,v=.slice a l.length m/\∀k,k<l.length->∀w1,cj w.heap.size w w1->∃g o,a=C ⟨g,o,U⟩/\w1.cell? ⟨g,o+k*2,U⟩=C (.int .i64 (l.getD k (0,0)).1)/\w1.cell? ⟨g,o+k*2+1,U⟩=C (.int .i64 (l.getD k (0,0)).2):=by
 obtain⟨a,m,rfl,_⟩:=h.form;refine⟨a,m,rfl,λk b w1 f=>?_⟩;have⟨q,c,d,n⟩:=(h.below f).form;simp[bN,true_and]at d;obtain⟨rfl,rfl⟩:=d;obtain⟨g,o,rfl,p⟩:=n k b;have e:∀(l:List (Int×Int))(k:Nat),k<l.length->(Ab.EL.bC l).di.getD (k*2) undef=.int .i64 (l.getD k (0,0)).1/\(Ab.EL.bC l).di.getD (k*2+1) undef=.int .i64 (l.getD k (0,0)).2:=by intro l;induction l with|nil=>intro k b;simp at b|cons x l i=>intro k b;cases k with|zero=>simp[Ab.EL.di]|succ k=>have:=i k Y7;have j:(k+1)*2=k*2+1+1:=Y0;simpa[Ab.EL.di,j]using this
 refine⟨g,o,rfl,?_,?_⟩
 .have:=p 0 Y0;rw[dA,(e l k b).1]at this;exact this
 .grind
def zdj(l:List (Int×Int))(k:Nat)(h:k<l.length):l.take (k+1)=l.take k++[l[k]]:=Y7
def np(v:Y)(l:List (Int×Int))(w:V)(t:Sl w 2 v l.length (Ab.EL.bC l).di)(p:l.length<=1099511627776):dE aa.prog 173 #[v] w λe w'=>∃r,e=.returned (.pointer (C ⟨r,0,U⟩))/\GL w' w.heap.size r l/\cj w.heap.size w w':=by
 obtain⟨a,u,rfl,x⟩:=t.got;have o:=hid x;go_enter aa.func173,ntmps173;go_wp2;go_loopw[10](λi wr=>∃k:Nat,k<=l.length/\i=.int .i64 k/\GL wr w.heap.size w.heap.size (l.take k)/\cj w.heap.size w wr)(λi _=>l.length-(intOf i).toNat);case atStart=>exact⟨0,a7 _,rfl,⟨[],ng rfl,aA,Y1,Y1,ao _⟩,n9 _ _⟩
 case round=>
  obtain⟨k,q,rfl,h,B⟩:=hrel;have HR:=hid h;have c:=hid B;by_cases d:k<l.length
  .obtain⟨g,y,rfl,j,m⟩:=o.out k d _ B;have z:=B.size;go_wp2_with fail;apply(ZY _ w.heap.size _ (l[k].1,l[k].2) _ (HR.out.below (n9 _ _)) (by simp;omega) (by simp;omega)).mono;rintro e w2⟨rfl,b,f⟩;have s:=hid b;have n:=hid f;go_wp2_with fail;go_roundw;case rel=>
    refine⟨k+1,Y0,by go_num,?_,?_⟩;.rw[zdj l k d];exact s.out
    .exact(c.out.alloc Y0 _).trans n.out
   case measure=>simp[intOf];omega
  .go_wp2;go_ret;have h:=HR.out;rw[aM Y0]at h;simp_all
def kj.lt{w:V}{b:Nat}{v:Y}{l:List (Int×Int)}(h:kj w b v l):∀k,v.ownBlock=C k->b<=k/\k<w.heap.size:=World.ownsRow.lt h
def kj.alloc{w:V}{b:Nat}{v:Y}{l:List (Int×Int)}(h:kj w b v l)(o:Obj):kj (w.alloc o) b v l:=World.ownsRow.alloc h o
def FP{q:Array bU}{r:List bU}{o:bU}{a:Act}{Q:mN->Act->V->Prop}(i:o.guard=U)(s x:aU)(z:o.op=.call {callee:=.builtin .append,args:=#[s,x],argTypes:=#[34,34]})(p:Nat)(v:Y)(l:List (Int×Int))(A:a.eval s=v)(c:kj w p v l)(u:Y)(m:List (Int×Int))(B:a.eval x=u)(f:Sl w 2 u m.length (EL.bC m).di)(n:l.length+m.length<=1099511627776)(b:p<=w.heap.size)(h:∀y d t,kj t p (.slice y (l++m).length d) (l++m)->w.grownBy t v.ownBlock->wpList aa.prog q Q r (a.put o.dst (.slice y (l++m).length d)) t):wpList aa.prog q Q (o::r) a w:=wpList_plain i λ_ hK=>HE s x _ z p 80 (.agg #[.int .i64 0,.int .i64 0]) 2 16 aa.underlying34 zez rfl Y0 v _ _ A c u _ _ B f (EL.one (.bC m)) (by simp[tg];omega) Y0 b λD t j k _ _=>by
 have g:kj t p D (l++m):=by
  have e:(EL.bC (l++m)).di=(EL.bC l).di++(EL.bC m).di:=by simp[EL.di]
  unfold kj;rw[bJ,e];exact j
 obtain⟨y,d,rfl⟩:=g.form;simp_all
def K6{m:Array bU}{r:List bU}{o:bU}{a:Act}{Q:mN->Act->V->Prop}(g:o.guard=U)(c:aU)(q:o.op=Op.makeSlice 34 (.const (.int .i64 0)) c)(n:Nat)(s:a.eval c=.int .i64 n)(u:n<=1099511627776)(l:Nat)(e:l<=w.heap.size)(hK:∀p,kj p l (.slice (C ⟨w.heap.size,0,U⟩) 0 n) []->cj w.heap.size w p->wpList aa.prog m Q r (a.put o.dst (.slice (C ⟨w.heap.size,0,U⟩) 0 n)) p):wpList aa.prog m Q (o::r) a w:=by have⟨t,i,z,b,d⟩:=info_parts zez;exact wpList_make_own w g (.const (.int .i64 0)) c 34 q l 80 t (.agg #[.int .i64 0,.int .i64 0]) 2 aa.underlying34 i z b .i64 .i64 n n rfl s rfl Y8 (by unfold tg;omega) e λp f h=>hK p f ⟨h.os,h.tape,h.output,h.size,λk j=>h.block k j Y1⟩
def zum:Y->Nat|.slice _ n _=>n|_=>0
def zr3(w:V)(g:Int×Int):Sl (w.alloc (.cells #[.int .i64 g.1,.int .i64 g.2] 80)) 2 (.slice (C ⟨w.heap.size,0,U⟩) 1 1) 1 (EL.bC [g]).di:=⟨rfl,.inr ⟨w.heap.size,0,1,#[.int .i64 g.1,.int .i64 g.2],(80,(0,0)),rfl,ao _,ng rfl,⟨Y1,by simp[tc]⟩,by simp[EL.di]⟩⟩
def yd(r B:Nat)(l:List (Int×Int))(w:V)(h:GL w B r l)(G:l.length<=1099511627776):dE aa.prog 174 #[.pointer (C ⟨r,0,U⟩)] w λe w'=>∃a c,e=.returned (.slice a l.length c)/\kj w' w.heap.size (.slice a l.length c) l/\cj w.heap.size w w':=by
 have⟨A,s,R,Q,Z,hr⟩:=h;have i:=(ab.1 s).1;have⟨I,f0⟩:=blk s;have HB:=hid s;have D:=hid R;go_enter aa.func174,ntmps174;go_wp2_with(apply K6 rfl (.tmp 8) rfl l.length rfl Y0 w.heap.size Y1;intro w1 N t;have⟨S,T⟩:=blk (aY t Y0 HB.out));have L:=hid t;have u:=hid N;go_loopw[3,4](λv p wr=>∃(k:Nat)(a:Option Addr)(c:Nat),k<=l.length/\v=.slice a k c/\p=yY (A.drop k).head?/\kj wr w.heap.size (.slice a k c) (l.take k)/\cj w.heap.size w wr)(λv _ _=>l.length-zum v);case atStart=>grind
 case round=>
  obtain⟨k,a,c,J,rfl,rfl,N,b⟩:=hrel;have x:=hid N;have M:=hid b;have K:=b.size;by_cases f:k<l.length
  .have⟨n,y,F,d⟩:=D.out.at f;rw[y];have g:=(ab.1 d).1;have⟨S,T⟩:=blk (aY b g d);have O:(l.take k++[l[k]]).length=k+1:=by simp;omega
   simp only[yY,cG];go_wp2_with(apply FP rfl (.tmp 20) (.tmp 25) rfl w.heap.size (.slice a k c) (l.take k) rfl (x.out.alloc _) _ [l[k]] rfl (zr3 wr l[k]) (by simp;omega) (by simp;omega);intro W X w2 o m;rw[O]at o⊢;have q:=hid ((M.out.alloc Y0 (.cells #[.int .i64 l[k].1,.int .i64 l[k].2] 80)).grown m (by simp;omega) (λj P=>by have:=(λj P=>(x.out.lt j P).1) j P;omega));have⟨c4,f4⟩:=blk (aY q.out g d);have z:=hid o);go_roundw;case rel=>exact⟨k+1,W,X,Y0,rfl,by simp[yY],Y7,q.out⟩
   case measure=>simp[zum];omega
  .obtain rfl:k=l.length:=Y0;have Q:A.drop l.length=[]:=by rw[<-D.out.len];simp
   rw[Q];have N:=x.out;rw[xz]at N;have N:=hid N;simp[List.head?_nil,yY,Option.map_none];go_wp2;go_ret;exact⟨_,_,rfl,N.out,M.out⟩
def zdw(x y:Int)(i:0<=x)(d:x<9223372036854775808)(e:0<=y)(f:y<9223372036854775808):0<=aD.wrap ((aS aD.bits x^^^aS aD.bits y).toNat:Int):=by obtain⟨a,rfl⟩:=ee i;obtain⟨b,rfl⟩:=ee e;have g:a<2^63:=Y0;have c:b<2^63:=Y0;have h:(a^^^b)<2^63:=Nat.xor_lt_two_pow g c;simp only[BitVec.ofInt_natCast,BitVec.toNat_xor,BitVec.toNat_ofNat];rw[xB (show a<2^aD.bits from Nat.lt_trans g Y5),xB (show b<2^aD.bits from Nat.lt_trans c Y5),IntKind.wrap_i64];omega
def N4:bK:=[]
def FI:aR aa.prog N4:=an trivial
def Sx:Nat->Tr:=λn=>match n with|7=>iu [0,0,1,0,2,0,3,0,4,0,5,0,6,0,7,0,8,0,9,0,10,0,11,0,12,0,13,0,14,0,15,0,16,0,17,0,18,0,19,0,20,0,21,0,22,0,23,0,24,0,25,0,26,0,27,0,28,0,29,0,30,0,31,0,32,0,33,0,34,0,35,0,36,0,37,1,38,1,39,1,40,1,41,1,42,1,43,1,44,1,45,2] .nil|_=>.nil
def Ns:zhw aa.prog 17 69 [.inl .int] (λp⟨(n:Int),_⟩K=>af (0<=p/\p<=1073741824)<|af (n<=4294967296)<|∀y:Int,0<=y->(y<n\/y=0)->K (.l (.v (.int .i64 y))) (p+1)):=by
 refine ZC (TR:=Sx) aJ au FI (Rn.fM func17) rfl rfl ?_;rintro f l p⟨(n:Int),_⟩K hl⟨j,⟨c,hK⟩⟩;replace hl:=gl l hl;replace c:n<=4294967296:=c;have g:∀i,(l.getD i 0).toNat<256:=λi=>UInt8.toNat_lt _;have L:0<=((EL.bytes l).len:Int)/\((EL.bytes l).len:Int)<=1099511627776:=⟨Y0,by show(l.length:Int)<=_;omega⟩;have m:∀x:Int,0<=x->0<=x%((EL.bytes l).len:Int)/\(((EL.bytes l).len:Int)=0\/x%((EL.bytes l).len:Int)<((EL.bytes l).len:Int)):=λx d=>by
  by_cases a:((EL.bytes l).len:Int)=0;.rw[a];simp[d]
  .exact⟨gN _ a,.inr (nK _ Y0)⟩
 have k:0<=(p+1-1)/((EL.bytes l).len:Int)/\(p+1-1)/((EL.bytes l).len:Int)<=p:=⟨Int.ediv_nonneg Y0 L.1,by have:=Int.ediv_le_self ((EL.bytes l).len:Int) (show 0<=p+1-1 by omega);omega⟩;have o:=m (p+1-1) Y0;have q:=m ((p+1-1)*7+3) Y0;have r:=g (p+1-1).toNat;have s:=g ((p+1-1)%((EL.bytes l).len:Int)).toNat;have t:=g (((p+1-1)*7+3)%((EL.bytes l).len:Int)).toNat;have e:((EL.bytes l).len:Int)=l.length:=rfl;repeat'(conv=>whnf);first|refine U0 ?_ ?_;exact gS|refine U1 ?_|apply gU;exact gA|refine gB ?_ ?_<;>intro b h<;>try exact bG
 .refine ae _ (ae _ (aB ?_ (hK 0 Y0 (.inr rfl))));repeat' first|exact gR|refine U0 ?_ ?_
 .refine ae _ (ae _ (aB ?_ (hK 0 Y0 (.inr rfl))));repeat' first|exact gR|refine U0 ?_ ?_
 .refine ae _ (ae _ (aB ?_ (hK (((l.getD (p+1-1).toNat 0).toNat:Int)%n) (gN _ Y0) (.inl (nK _ Y0)))));repeat' first|exact gR|refine U0 ?_ ?_
 .exfalso;simp only[decide_eq_true_eq]at b;omega
 .refine U0 ⟨zdw _ _ Y0 Y0 Y0 Y0,Y0⟩ ?_;repeat'(conv=>whnf);first|refine U0 ?_ ?_;exact gS|refine U1 ?_|apply gU;exact gA|refine gB ?_ ?_<;>intro b h<;>try exact bG
  refine ae _ (ae _ (aB ?_ (hK (?x%n) (gN _ (show n≠0 by omega)) (.inl (nK _ (show 0<n by omega))))));repeat' first|exact gR|refine U0 ?_ ?_
def qJ:CS:=iR 69 [.inl .int] (λp⟨(n:Int),_⟩K=>af (0<=p/\p<=1073741824)<|af (n<=4294967296)<|∀y:Int,0<=y->(y<n\/y=0)->K (.l (.v (.int .i64 y))) (p+1))
def qm:bF aa.prog 17 qJ:=ziQ gK Ns
def Hq:bK:=[]
def N3:aR aa.prog Hq:=an trivial
def P6:CS:=FQ fQ Hq eT f16
def Tk:bF aa.prog 16 P6:=eP aJ au N3 (Rn.fM func16)
def R9:bK:=[(105,yc)]
def Ij:aR aa.prog R9:=an ⟨vZ,aA⟩
def yG:DA [.inr [.int,.int]]->(DV->Prop)->Prop:=λ⟨⟨a,b,_⟩,_⟩K=>K (.l (.v (.bool (zE (a,b)))))
def BM:fi aa.prog 116 [.inr [.int,.int]] yG:=by
 apply aV (TR:=eT) aJ au Ij (Rn.fM func116) rfl;rintro⟨⟨a,b,_⟩,_⟩K hK _;dsimp only[yG]at hK;repeat'(conv=>whnf);first|apply U0;exact gS|apply gU;exact gA|refine gB ?_ ?_<;>intro c h<;>try exact bG
 all_goals(apply gI hK;repeat' first|exact gR|apply U0);simp[zE, *]
def Hc:CS:=cz [.inr [.int,.int]] yG
def MO:bF aa.prog 116 Hc:=bc BM
def Yc:bK:=[(89,jf)]
def NT:aR aa.prog Yc:=an ⟨eZ,aA⟩
def ET:DA [.inr [.int,.int]]->(DV->Prop)->Prop:=λ⟨⟨a,b,_⟩,_⟩K=>K (.l (.v (.bool (zE (a,b)))))
def X0:fi aa.prog 112 [.inr [.int,.int]] ET:=by
 apply aV (TR:=eT) aJ au NT (Rn.fM func112) rfl;rintro⟨⟨a,b,_⟩,_⟩K hK _;dsimp only[ET]at hK;repeat'(conv=>whnf);first|apply U0;exact gS|apply gU;exact gA|refine gB ?_ ?_<;>intro c h<;>try exact bG
 all_goals(apply gI hK;repeat' first|exact gR|apply U0);simp_all[zE,ed];try(intros;omega)
def ED:CS:=cz [.inr [.int,.int]] ET
def DN:bF aa.prog 112 ED:=bc X0
def NF:bK:=[(116,Hc)]
def Fp:aR aa.prog NF:=an ⟨MO,aA⟩
def wq:DA [.inr [.int,.int,.bC,.bool,.int]]->(DV->Prop)->Prop:=λ⟨⟨r,t,l,o,a,_⟩,_⟩K=>K (.l (.v (.bool (fT ⟨r,t,l,o,a⟩))))
def zq:fi aa.prog 96 [.inr [.int,.int,.bC,.bool,.int]] wq:=by
 apply aV (TR:=eT) aJ au Fp (Rn.fM func96) rfl;dsimp only[DA,HL,Sh.T];rintro⟨⟨r,t,l,o,a,_⟩,_⟩K hK⟨⟨_,_,i,_⟩,_⟩;dsimp only[wq]at hK;repeat'(conv=>whnf);first|apply U0;exact gS|apply gU;exact gA|refine gB ?_ ?_<;>intro c h<;>try exact bG
 iterate 7(first|((refine gI hK ?_;repeat' first|exact gR|apply U0)<;>exact(Oq Y0).symm))
 apply dt.mI {k:Nat//k<=l.length/\Eb (l.take k)=E} (λ⟨k,_⟩=>[(44,.l (.v (.int .i64 k)))]) (λ_=>[]) (λ⟨k,_⟩=>l.length-k) ⟨0,a7 _,rfl⟩ [0];·(repeat'(first|(apply U0;exact gV)|exact aA))
 rintro⟨k,f,b⟩;repeat'(conv=>whnf);first|refine U0 ?_ ?_;exact gS|refine gB ?_ ?_<;>intro c h<;>try exact bG
 ·(refine gI hK ?_;repeat' first|exact gR|refine U0 ?_ ?_);exact(Oq (λe=>by grind[PW])).symm
 .have d:Eb (l.take (k+1))=E:=by simp_all[Bq]
  (refine ae ⟨k+1,Y0,d⟩ (ae [0] (aB ?_ ?_)));.grind
  ·(repeat'(first|(apply U0;exact gV)|exact aA))
 ·(apply gI hK;repeat' first|exact gR|apply U0);rw[aM Y0]at b;exact(xd Y0 Y0 Y0 Y0 b).symm
def nk:CS:=cz [.inr [.int,.int,.bC,.bool,.int]] wq
def mF:bF aa.prog 96 nk:=bc zq
def NQ:bK:=[(112,ED),(89,jf)]
def FD:aR aa.prog NQ:=an ⟨DN,eZ,aA⟩
def wE:DA [.inr [.int,.int,.bC,.bool,.int]]->(DV->Prop)->Prop:=λ⟨⟨r,t,l,o,a,_⟩,_⟩K=>K (.l (.v (.bool (fT ⟨r,t,l,o,a⟩))))
def Nl:fi aa.prog 90 [.inr [.int,.int,.bC,.bool,.int]] wE:=by
 apply aV (TR:=eT) aJ au FD (Rn.fM func90) rfl;dsimp only[DA,HL,Sh.T];rintro⟨⟨r,t,l,o,a,_⟩,_⟩K hK⟨⟨_,_,g,_⟩,_⟩;dsimp only[wE]at hK;have g:=gl l g;repeat'(conv=>whnf);first|apply U0;exact gS|apply gB<;>intro c h<;>try exact bG
 apply dt.mI {k:Nat//k<=l.length/\Eb (l.take k)=E} (λ⟨k,_⟩=>[(3,.l (.v (.int .i64 k)))]) (λ_=>[]) (λ⟨k,_⟩=>l.length-k) ⟨0,a7 _,rfl⟩ [0];·(repeat'(first|(apply U0;exact gV)|exact aA))
 rintro⟨k,f,b⟩;repeat'(conv=>whnf);first|apply U0;exact gS|apply gU;exact gA|refine gB ?_ ?_<;>intro c h<;>try exact bG
 ·(apply gI hK;repeat' first|exact gR|apply U0);exact(Oq (λe=>by grind[PW])).symm
 .have d:Eb (l.take (k+1))=E:=by simp_all[Bq]
  (refine ae ⟨k+1,Y0,d⟩ (ae [0] (aB ?_ ?_)));.grind
  ·(repeat'(first|(apply U0;exact gV)|exact aA))
 all_goals rw[aM Y0]at b;(apply gI hK;repeat' first|exact gR|apply U0);first|exact(Oq Y0).symm|(simp_all[fT];done)|(simp_all[fT];intros;omega)
def k7:CS:=cz [.inr [.int,.int,.bC,.bool,.int]] wE
def kh:bF aa.prog 90 k7:=bc Nl
def T8:bK:=[]
def KE:aR aa.prog T8:=an trivial
def zaR(f g m j n D:Y)(w:V)(o:f.oneCell'=E)(p:g.oneCell'=E)(q:m.oneCell'=E)(s:j.oneCell'=E)(x:n.oneCell'=E)(B:D.oneCell'=E):dE aa.prog 208 #[.agg #[f,g,m,j,n],D] w λe w'=>e=.returned (.agg #[f,g,D,j,.int .i64 0])/\cj w.heap.size w w':=by
 have G:ki ⟨w,[]⟩ [] [] w:=⟨uO.refl _ _,rfl,λk t e h=>by simp at h,λi k b h=>by simp[cN]at h⟩;refine b9 (jx (W0:=[]) (TR:=eT) (K:=λr _=>r=.a [.v f,.v g,.v D,.v j,.v (.int .i64 0)]) aJ au ⟨KE,.inl rfl⟩ (Rn.fM func208) G (xs:=[.a [.v f,.v g,.v m,.v j,.v n],.l (.v D)]) ⟨⟨_,rfl,⟨o,rfl⟩,⟨p,rfl⟩,⟨q,rfl⟩,⟨s,rfl⟩,⟨x,rfl⟩,aA⟩,⟨B,rfl⟩,aA⟩ gK ?_) ?_
 .repeat'((conv=>whnf);(apply U0;exact gS))
  all_goals rfl
 .rintro e w'⟨u,r,J,bR,rfl,rfl,y,I,_⟩;obtain⟨F,rfl,A⟩:=y;refine⟨?_,⟨I.kp.os,I.kp.tape,I.kp.output,I.kp.size,λb z=>I.kp.block b z Y1⟩⟩;have:F.toList=[f,g,D,j,.int .i64 0]:=by generalize F.toList=l at A;match l,A with|[a,b,c,d,e],⟨⟨_,o⟩,⟨_,p⟩,⟨_,q⟩,⟨_,s⟩,⟨_,x⟩,_⟩=>rw[show a=f from o,show b=g from p,show c=D from q,show d=j from s,show e=.int .i64 0 from x]
  rw[show F=#[f,g,D,j,.int .i64 0]from bj.1 this]
def rz:CS:=
  { S:=fun x p K=>match x with|[.a [r,t,_,o,_],.l s]=>K (.a [r,t,s,o,.v (.int .i64 0)]) p|_=>False
    sb:=fun _=>C []}
def tQ:bF aa.prog 208 rz:=by
 refine⟨gK,λx p K S k β w j I gl g=>?_⟩;simp[rz]at S;split at S;.rename_i r t i o a s;cases v:j.toList with|nil=>rw[v]at g;cases g|cons v1 rest=>rw[v]at g;match rest,g with|[v2],⟨⟨us,b,c⟩,h,_⟩=>subst b;match u:us.toList,c with|[a1,a2,a3,a4,a5],⟨g1,g2,g3,g4,g5,_⟩=>have d:j=#[.agg #[a1,a2,a3,a4,a5],v2]:=bj.1 (by rw[v,show us=#[a1,a2,a3,a4,a5]from bj.1 u]);subst d;apply b9 (zaR a1 a2 a3 a4 a5 v2 w g1.1 g2.1 g3.1 g4.1 g5.1 h.1);rintro e l⟨rfl,f⟩;exact⟨_,_,p,β,rfl,S,⟨_,rfl,g1,g2,h,g4,⟨rfl,rfl⟩,aA⟩,kF.zfB I f⟩
 .cases S
def Sk:bK:=[(90,k7),(208,rz)]
def Iw:aR aa.prog Sk:=an ⟨kh,tQ,aA⟩
def UC:Nat->Tr:=λn=>match n with|3=>iu [0,0,2,0,3,0,4,0,7,0,8,0,9,0,10,0,1,1,5,1,6,1,11,1,12,2,13,2] .nil|_=>.nil
def yL:DA [.inr [.int,.int,.bC,.bool,.int]]->(DV->Prop)->Prop:=λ⟨⟨r,t,l,o,a,_⟩,_⟩K=>K (eH ⟨r,t,l,o,a⟩).d
def RJ:fi aa.prog 186 [.inr [.int,.int,.bC,.bool,.int]] yL:=by
 apply aV (TR:=UC) aJ au Iw (Rn.fM func186) rfl;dsimp only[DA,HL,Sh.T];rintro⟨⟨r,t,l,o,a,_⟩,_⟩K hK⟨⟨_,_,c,_⟩,_⟩;dsimp only[yL]at hK;have c:=gl l c;repeat'(conv=>whnf);first|apply U0;exact gS|apply U1|apply gU;exact gA|refine gB ?_ ?_<;>intro b h<;>try exact bG
 all_goals(apply gI hK;repeat' first|exact gR|apply U0)
 all_goals clear hK
 all_goals(cases l<;>simp_all[eH,IW,EL.len]<;>omega)
def Hh:CS:=cz [.inr [.int,.int,.bC,.bool,.int]] yL
def MU:bF aa.prog 186 Hh:=bc RJ
def T5:bK:=[(90,k7),(208,rz),(112,ED)]
def Kz:aR aa.prog T5:=an ⟨kh,tQ,DN,aA⟩
def Yu:Nat->Tr:=λn=>match n with|4=>iu [0,0,2,0,3,0] (.iY 1 1 (.iY 4 1 (.iY 5 1 (iu [6,1,7,2] .nil) 6 1 (iu [5,1,7,2] .nil)) 6 1 (iu [4,1,5,1,7,2] .nil)) 6 1 (iu [1,1,4,1,5,1,7,2] .nil))|7=>iu [0,0,2,0,3,0,5,0] (.iY 1 1 (.iY 4 1 (iu [6,1,7,1,8,1,9,2,10,2] .nil) 6 1 (iu [4,1,7,1,8,1,9,2,10,2] .nil)) 6 1 (iu [1,1,4,1,7,1,8,1,9,2,10,2] .nil))|_=>.nil
def A9:DA [.inr [.int,.int,.bC,.bool,.int],.inr [.int,.int]]->(DV->Prop)->Prop:=λ⟨⟨r,t,l,o,a,_⟩,⟨x,y,_⟩,_⟩K=>K (sg ⟨r,t,l,o,a⟩ (x,y)).d
def Tz:fi aa.prog 177 [.inr [.int,.int,.bC,.bool,.int],.inr [.int,.int]] A9:=by
 refine aV (TR:=Yu) aJ au Kz (Rn.fM func177) rfl ?_;dsimp only[DA,HL,Sh.T];rintro⟨⟨r,t,l,o,a,_⟩,⟨x,y,_⟩,_⟩K hK⟨⟨_,_,hl,_⟩,_⟩;dsimp only[A9]at hK;replace hl:=gl l hl;refine eK (p:=fT ⟨r,t,l,o,a⟩=E) (λv=>?_) (λv=>?_)
 .have b:=nu v;dsimp only at b;repeat'(conv=>whnf);first|refine U0 ?_ ?_;exact gS|refine dS.mk ?_ ?_;exact wP|refine U1 ?_|apply gU;exact gA|refine gB ?_ ?_<;>intro c h<;>try exact bG
  all_goals(refine gI hK ?_;repeat' first|exact gR|refine U0 ?_ ?_)
  all_goals clear hK
  all_goals(by_cases d:(l.length:Int)<r<;>first|(exfalso;omega)|skip)
  all_goals(simp_all[sg,Ll,IW,EL.len]<;>first|done)
 .replace v:fT ⟨r,t,l,o,a⟩=H:=by simpa using v
  repeat'(conv=>whnf);first|refine U0 ?_ ?_;exact gS|apply gU;exact gA|refine gB ?_ ?_<;>intro c h<;>try exact bG
  all_goals(refine gI hK ?_;repeat' first|exact gR|refine U0 ?_ ?_)
  all_goals clear hK
  all_goals(simp_all[sg,IW,EL.len]<;>first|done)
def LI:CS:=cz [.inr [.int,.int,.bC,.bool,.int],.inr [.int,.int]] A9
def Q9:bF aa.prog 177 LI:=bc Tz
def jH(r t:Int)(v:Y)(l:List (Int×Int))(o:Bool)(a:Int)(w:V)(f:Sl w 2 v l.length (EL.bC l).di)(h:l.length<=1099511627776)(g:Gw w):dE aa.prog 96 #[.agg #[.int .i64 r,.int .i64 t,v,.bool o,.int .i64 a]] w λe w'=>e=.returned (.bool (fT ⟨r,t,l,o,a⟩))/\cj w.heap.size w w':=by apply(zq ((r,t,l,o,a,()),()) (λd=>d=.l (.v (.bool (fT ⟨r,t,l,o,a⟩)))) rfl w #[.agg #[.int .i64 r,.int .i64 t,v,.bool o,.int .i64 a]] ⟨⟨_,rfl,rfl,rfl,⟨f,h⟩,rfl,rfl,aA⟩,aA⟩ g).mono;rintro e w'⟨d,u,rfl,rfl,b,i,c,_⟩;obtain⟨rfl,_⟩:=c;simp_all
def dY(w:V)(o a o2:Obj):cj w.heap.size w (((w.alloc o).alloc a).alloc o2):=(((fq _ _).alloc (ao _) o).alloc Y1 a).alloc (by simp;omega) o2
def kj.base{w:V}{base b:Nat}{v:Y}{l:List (Int×Int)}(h:kj w base v l)(a:b<=base):kj w b v l:=CE h a
def kj.set{base:Nat}(h:kj w base v l){p:Addr}(a:p.block<base)(u:Y):kj (w.setCell p u) base v l:=ownsRow_setCell_below h a u
def kj.below{c:V}{a:Nat}(h:kj w a v l)(b:cj w.heap.size w c):kj c a v l:=Qv h b
def kj.drew{w:V}{base:Nat}{v:Y}{l:List (Int×Int)}(h:kj w base v l):kj w.drew base v l:=h
def Ex.zux{p:Nat->Prop}{a:V}(h:Ex p w a):Ex p w.drew a.drew:=h
def l2(w:V)(b o:Nat)(v:Y):cj b w (w.setCell ⟨b,o,U⟩ v):=⟨rfl,rfl,rfl,Y1,λk h=>heap_setCell_other w ⟨b,o,U⟩ k v (by simp;omega)⟩
def Tc(r t:Int)(v:Y)(g:Int×Int)(l:List (Int×Int))(o:Bool)(a:Int)(w:V)(hv:Sl w 2 v (g::l).length (EL.bC (g::l)).di)(A:(g::l).length<=1099511627776)(u:fT ⟨r,t,g::l,o,a⟩=E)(B:Gw w):dE aa.prog 236 #[.agg #[.int .i64 r,.int .i64 t,v,.bool o,.int .i64 a]] w λe w'=>∃a' c,e=.returned (.tuple #[.agg #[.int .i64 r,.int .i64 t,.slice a' l.length c,.bool o,.int .i64 0],.agg #[.int .i64 g.1,.int .i64 g.2],.bool E])/\cj w.heap.size w w'/\kj w' w.heap.size (.slice a' l.length c) l:=by
 have k:=hid u;obtain⟨a0,cap,rfl,-⟩:=hv.form;have I:=hid hv;have hl2:l.length<=1099511627776:=Y8;go_enter aa.func236,ntmps236;go_wp2_with fail;apply(jH _ _ _ _ _ _ _ (I.out.below (dY _ _ _ _)) A (B.below (dY _ _ _ _))).mono;rintro e w1⟨rfl,x⟩;rw[k.out];have⟨Q,S,T,N,W⟩:=Eo x;have O:=hid (I.out.below W);have⟨q,f0⟩:=blk Q;have Q:=hid Q;have S:=hid S;have T:=hid T;have W:=hid W;go_wp2_with fail;apply(np _ (g::l) _ O.out A).mono;rintro e w2⟨J,rfl,m,i⟩;have HR:=hid m;(have Q:=hid (aY i Y0 Q.out));(have S:=hid (aY i Y0 S.out));(have T:=hid (aY i Y0 T.out));have W:=hid (fp W.out i);go_wp2_with fail;apply(zcA J w1.heap.size g l _ HR.out i.size hl2).mono;rintro e w3⟨rfl,m,j⟩;have D:=hid m;(have Q:=hid (aY j Y0 Q.out));(have S:=hid (aY j Y0 S.out));(have T:=hid (aY j Y0 T.out));have W:=hid (W.out.trans (j.mono Y0));have⟨q,f0⟩:=blk Q.out;have z0:=(ab.1 Q.out).1;have⟨c1,f1⟩:=blk S.out;have L:=(ab.1 S.out).1;have⟨c2,f2⟩:=blk T.out;have z2:=(ab.1 T.out).1;go_wp2_with fail;apply(yd J w1.heap.size l _ (D.out.below (n9 _ _)) hl2).mono;rintro e w4⟨X,Z,rfl,n,f⟩;have k6:=hid (aY f Y1 (ng (w:=w3) rfl));(have Q:=hid (aY f (by(simp;omega)) (jh Q.out)));(have S:=hid (aY f Y7 (jh S.out)));(have T:=hid (aY f (by(simp;omega)) (jh T.out)));have P:=f.size;have W:=hid (fp (W.out.alloc Y0 _) f);have HO:=hid n;have⟨q,f0⟩:=blk Q.out;have z0:=(ab.1 Q.out).1;have⟨c1,f1⟩:=blk S.out;have L:=(ab.1 S.out).1;have⟨c2,f2⟩:=blk T.out;have z2:=(ab.1 T.out).1;have⟨M,f6⟩:=blk k6.out;have R:=(ab.1 k6.out).1;simp only[size_alloc]at P HO;go_upto_region 8 with fail;have s:(w4.setCell ⟨w.heap.size,2,U⟩ (.slice X l.length Z)).heap[w.heap.size]?=C (.cells #[.int .i64 r,.int .i64 t,.slice X l.length Z,.bool o,.int .i64 a] 36 (0,0)):=by simpa using kK (o:=2) (v:=dR X l.length Z) Q.out
 have S:=hid (nt (p:=⟨w.heap.size,2,U⟩) (v:=.slice X l.length Z) Y1 S.out);have T:=hid (nt (p:=⟨w.heap.size,2,U⟩) (v:=.slice X l.length Z) Y1 T.out);have k6:=hid (nt (p:=⟨w.heap.size,2,U⟩) (v:=.slice X l.length Z) (by simp;omega) k6.out);have HO:=hid (HO.out.set (p:=⟨w.heap.size,2,U⟩) (by simp;omega) (.slice X l.length Z));have W:=hid (W.out.trans (l2 w4 w.heap.size 2 (.slice X l.length Z)));have F:(w4.setCell ⟨w.heap.size,2,U⟩ (.slice X l.length Z)).heap.size=w4.heap.size:=size_set _ _ _;generalize w4.setCell ⟨w.heap.size,2,U⟩ (.slice X l.length Z)=y at s S T k6 HO W F⊢;have Q:=hid s;have⟨q,f0⟩:=blk Q.out;have z0:=(ab.1 Q.out).1;go_upto_region 9 with fail;have s:(y.setCell ⟨w.heap.size,4,U⟩ (.int .i64 0)).heap[w.heap.size]?=C (.cells #[.int .i64 r,.int .i64 t,.slice X l.length Z,.bool o,.int .i64 0] 36 (0,0)):=by simpa using kK (o:=4) (v:=cL .i64 0) Q.out
 have S:=hid (nt (p:=⟨w.heap.size,4,U⟩) (v:=.int .i64 0) Y1 S.out);have T:=hid (nt (p:=⟨w.heap.size,4,U⟩) (v:=.int .i64 0) Y1 T.out);have k6:=hid (nt (p:=⟨w.heap.size,4,U⟩) (v:=.int .i64 0) (by simp;omega) k6.out);have HO:=hid (HO.out.set (p:=⟨w.heap.size,4,U⟩) (by simp;omega) (.int .i64 0));have W:=hid (W.out.trans (l2 y w.heap.size 4 (.int .i64 0)));have G:(y.setCell ⟨w.heap.size,4,U⟩ (.int .i64 0)).heap.size=y.heap.size:=size_set _ _ _;generalize y.setCell ⟨w.heap.size,4,U⟩ (.int .i64 0)=z at s S T k6 HO W G⊢;have Q:=hid s;have z0:w.heap.size<z.heap.size:=Y0;have L:w.heap.size+1<z.heap.size:=Y0;have z2:w.heap.size+2<z.heap.size:=Y0;have R:w3.heap.size<z.heap.size:=Y0;have⟨q,f0⟩:=blk Q.out;have⟨c1,f1⟩:=blk S.out;have⟨c2,f2⟩:=blk T.out;have⟨M,f6⟩:=blk k6.out;apply il (λb=>b≠w.heap.size+1) (.op 0 0 (.op 1 0 (.op 2 1 (.op 3 2 (.op 4 2 (.nil)))))) gK rfl gK gK gK (λ_ _ d _ _ h=>by cases d<;>exact h);go_wp2_with((apply ni Y2 Y2 Y2 Y2 (by first|(simp;done)|(simp;omega)) (by(simp[*];done));intro K hK));apply XE Y2 Y2;intro K hK;go_wp2_with fail;refine⟨(by repeat(first|(with_reducible exact Ex.refl _ _)|(with_reducible apply Ex.zk4 _ _ Y1)|(with_reducible apply Ex.zux))),?_⟩;go_wp2_with(first|(apply qZ Y2 Y2;intro K hK)|(apply qC));exact dB (v:=.tuple #[.agg #[.int .i64 r,.int .i64 t,.slice X l.length Z,.bool o,.int .i64 0],.agg #[.int .i64 g.1,.int .i64 g.2],.bool E]) (by simp[results,results236,go_sem,c1,c2]) rfl ⟨_,_,rfl,(by repeat(first|(with_reducible exact eh Y3)|(with_reducible refine dh ?_ (by first|(simp;done)|(simp;omega)) _)|(with_reducible apply Below.drew)|exact eh Y3)),kj.base (base:=w3.heap.size+1) (by repeat(first|(with_reducible exact HO.out)|(with_reducible refine kj.set ?_ (by simp;omega) _)|(with_reducible apply kj.drew))) Y0⟩
def XM(r t:Int)(v:Y)(l:List (Int×Int))(o:Bool)(a:Int)(w:V)(j:Sl w 2 v l.length (EL.bC l).di)(c:l.length<=1099511627776)(h:fT ⟨r,t,l,o,a⟩=H)(g:Gw w):dE aa.prog 236 #[.agg #[.int .i64 r,.int .i64 t,v,.bool o,.int .i64 a]] w λe w'=>e=.returned (.tuple #[.agg #[.int .i64 0,.int .i64 0,.slice U 0 0,.bool H,.int .i64 0],.agg #[.int .i64 0,.int .i64 0],.bool H])/\cj w.heap.size w w':=by have i:=hid h;obtain⟨s,m,rfl,-⟩:=j.form;have d:=hid j;go_enter aa.func236,ntmps236;go_wp2_with fail;apply(jH _ _ _ _ _ _ _ (d.out.below (dY _ _ _ _)) c (g.below (dY _ _ _ _))).mono;rintro e w1⟨rfl,b⟩;rw[i.out];have⟨f,n,k,z,B⟩:=Eo b;have⟨p,u⟩:=blk n;have⟨q,x⟩:=blk k;go_wp2;exact dB (by simp[results,results236,go_sem,p,q]) rfl ⟨rfl,(by repeat(first|(with_reducible omega)|(with_reducible refine dh ?_ (by first|(simp;done)|(simp;omega)) _)|exact eh Y3))⟩
def XN(r t:Int)(v:Y)(o:Bool)(a:Int)(w:V)(s:Sl w 2 v ([]:List (Int×Int)).length (EL.bC []).di)(c:fT ⟨r,t,[],o,a⟩=E)(f:Gw w):dE aa.prog 236 #[.agg #[.int .i64 r,.int .i64 t,v,.bool o,.int .i64 a]] w λe w'=>e=.returned (.tuple #[.agg #[.int .i64 0,.int .i64 0,.slice U 0 0,.bool H,.int .i64 0],.agg #[.int .i64 0,.int .i64 0],.bool H])/\cj w.heap.size w w':=by have q:=hid c;obtain⟨D,u,rfl,-⟩:=s.form;have i:=hid s;clear s c;go_enter aa.func236,ntmps236;go_wp2_with fail;refine(jH _ _ _ _ _ _ _ (i.out.below (dY _ _ _ _)) Y1 (f.below (dY _ _ _ _))).mono ?_;rintro e w1⟨rfl,d⟩;rw[q.out];obtain⟨k0,k1,k2,j,hB⟩:=Eo d;have k:=hid (i.out.below hB);obtain⟨l,x⟩:=blk k0;replace k0:=hid k0;replace k1:=hid k1;replace k2:=hid k2;replace hB:=hid hB;clear d;go_wp2_with fail;refine(np _ [] _ k.out Y1).mono ?_;rintro e w2⟨m,rfl,g,b⟩;have HR:=hid g;(replace k0:=hid (aY b Y0 k0.out));(replace k1:=hid (aY b Y0 k1.out));(replace k2:=hid (aY b Y0 k2.out));replace hB:=hid (fp hB.out b);have z:=b.size;clear g b l x;go_wp2_with fail;refine(zf8 m w1.heap.size _ HR.out z).mono ?_;rintro e w3⟨rfl,h⟩;have n:=h.size;(replace k1:=hid (aY h Y0 k1.out));(replace k2:=hid (aY h Y0 k2.out));replace hB:=hid ((hB.out.trans (h.mono Y0)));clear h;obtain⟨y,F⟩:=blk k1.out;have p:=(ab.1 k1.out).1;obtain⟨A,G⟩:=blk k2.out;have B:=(ab.1 k2.out).1;go_wp2;exact dB (v:=.tuple #[.agg #[.int .i64 0,.int .i64 0,.slice U 0 0,.bool H,.int .i64 0],.agg #[.int .i64 0,.int .i64 0],.bool H]) (by simp[results,results236,go_sem,y,A,p,B]) rfl ⟨rfl,(by repeat(first|(with_reducible exact eh Y3)|(with_reducible refine Below.alloc ?_ (by first|omega|(simp;omega)) _)|(with_reducible refine dh ?_ (by first|(simp;done)|(simp;omega)) _)|exact eh Y3))⟩
def Xx{r:Int}{u:List Y}(h:SC w [.int,.int,.bC,.bool,.int] (r,t,l,o,a,()) u):∃v,u=[.int .i64 r,.int .i64 t,v,.bool o,.int .i64 a]/\Sl w 2 v l.length (EL.bC l).di/\l.length<=1099511627776:=by match u,h with|[m,x,c,d,e],⟨f,g,⟨i,b⟩,j,k,_⟩=>exact⟨c,by rw[show m=_ from f,show x=_ from g,show d=_ from j,show e=_ from k],i,b⟩
def Rv:fi aa.prog 236 [.inr [.int,.int,.bC,.bool,.int]] (λ⟨⟨r,t,l,o,a,_⟩,_⟩K=>K (eH ⟨r,t,l,o,a⟩).d):=by
 rintro⟨⟨r,t,l,o,a,_⟩,_⟩K hK w z s i;replace hK:K (eH ⟨r,t,l,o,a⟩).d:=hK;obtain⟨v,rfl,u,j⟩:∃v,z=#[.agg #[.int .i64 r,.int .i64 t,v,.bool o,.int .i64 a]]/\Sl w 2 v l.length (EL.bC l).di/\l.length<=1099511627776:=by cases b:z.toList with|nil=>rw[b]at s;exact s.elim|cons x rest=>rw[b]at s;match rest,s with|[],⟨⟨us,ex,hu⟩,_⟩=>subst ex;obtain⟨v,e,m,p⟩:=Xx hu;exact⟨v,bj.1 (by rw[b,show us=#[.int .i64 r,.int .i64 t,v,.bool o,.int .i64 a]from bj.1 e]),m,p⟩
 have n:∀(q:V),cj w.heap.size w q->eH ⟨r,t,l,o,a⟩=⟨IW,(0,0),H⟩->∃d v,nv (.tuple #[.agg #[.int .i64 0,.int .i64 0,.slice U 0 0,.bool H,.int .i64 0],.agg #[.int .i64 0,.int .i64 0],.bool H])=.returned v/\K d/\cj w.heap.size w q/\∃A,frV q w.heap.size d v A/\A.Nodup:=by intro q f k;rw[k]at hK;exact⟨_,_,rfl,hK,f,[],⟨_,rfl,[],[],rfl,⟨_,rfl,[],[],rfl,⟨rfl,rfl,rfl⟩,[],[],rfl,⟨rfl,rfl,rfl⟩,[],[],rfl,⟨World.ownsRow_nil _ _ _ _,a7 _,rfl⟩,[],[],rfl,⟨rfl,rfl,rfl⟩,[],[],rfl,⟨rfl,rfl,rfl⟩,rfl⟩,[],[],rfl,⟨_,rfl,[],[],rfl,⟨rfl,rfl,rfl⟩,[],[],rfl,⟨rfl,rfl,rfl⟩,rfl⟩,[],[],rfl,⟨rfl,rfl,rfl⟩,rfl⟩,Bp⟩
 cases h:fT ⟨r,t,l,o,a⟩with|false=>refine(XM r t v l o a w u j h i).mono ?_;rintro e q⟨rfl,f⟩;exact n q f (by simp[eH,h])|true=>
  cases l with|nil=>refine(XN r t v o a w u h i).mono ?_;rintro e q⟨rfl,f⟩;exact n q f (by simp[eH,h])|cons g l=>
   refine(Tc r t v g l o a w u j h i).mono ?_;rintro e q⟨y,c,rfl,f,B⟩;have k:eH ⟨r,t,g::l,o,a⟩=⟨⟨r,t,l,o,0⟩,g,E⟩:=by simp[eH,h]
   rw[k]at hK;refine⟨_,_,rfl,hK,f,(dR y l.length c).ownBlock.toList,⟨_,rfl,(dR y l.length c).ownBlock.toList,[],(eu _).symm,⟨_,rfl,[],_,rfl,⟨rfl,rfl,rfl⟩,[],_,rfl,⟨rfl,rfl,rfl⟩,_,[],(eu _).symm,⟨B,?_,rfl⟩,[],[],rfl,⟨rfl,rfl,rfl⟩,[],[],rfl,⟨rfl,rfl,rfl⟩,rfl⟩,[],[],rfl,⟨_,rfl,[],[],rfl,⟨rfl,rfl,rfl⟩,[],[],rfl,⟨rfl,rfl,rfl⟩,rfl⟩,[],[],rfl,⟨rfl,rfl,rfl⟩,rfl⟩,by cases(dR y l.length c).ownBlock<;>simp⟩;simp at j;show l.length<=1099511627776;omega
def G9:CS:=cz [.inr [.int,.int,.bC,.bool,.int]] (λ⟨⟨r,t,l,o,a,_⟩,_⟩K=>K (eH ⟨r,t,l,o,a⟩).d)
def ML:bF aa.prog 236 G9:=bc Rv
def Yk(r t:Int)(v:Y)(l:List (Int×Int))(o:Bool)(a:Int)(w:V)(D:Sl w 2 v l.length (EL.bC l).di)(i:l.length<=1099511627776):dE aa.prog 132 #[.agg #[.int .i64 r,.int .i64 t,v,.bool o,.int .i64 a]] w λe F=>∃G c,e=.returned (.agg #[.int .i64 r,.int .i64 t,.slice G l.length c,.bool o,.int .i64 a])/\cj w.heap.size w F/\kj F w.heap.size (.slice G l.length c) l:=by
 obtain⟨L,J,rfl,-⟩:=D.form;have s:=hid D;clear D;go_enter aa.func132,ntmps132;go_wp2_with fail;apply(np _ l _ (s.out.below (jl _ _ _)) i).mono;rintro e w1⟨m,rfl,g,f⟩;have HR:=hid g;have⟨u,x,n,B⟩:=Pa f;clear g;have u:=hid u;have x:=hid x;have B:=hid B;clear f;go_wp2_with fail;apply(yd m _ l _ HR.out i).mono;rintro e w2⟨y,d,rfl,h,b⟩;(have u:=hid (aY b Y0 u.out));(have x:=hid (aY b Y0 x.out));have B:=hid (fp B.out b);have A:=hid h;clear h b;have⟨j,I⟩:=blk u.out;have M:=(ab.1 u.out).1;go_upto_region 2 with fail;clear j I;have q:(w2.setCell ⟨w.heap.size,2,U⟩ (.slice y l.length d)).heap[w.heap.size]?=C (.cells #[.int .i64 r,.int .i64 t,.slice y l.length d,.bool o,.int .i64 a] 36 (0,0)):=by simpa using kK (o:=2) u.out
 have x:=hid (nt (p:=⟨w.heap.size,2,U⟩) (v:=.slice y l.length d) Y1 x.out);have A:=hid (A.out.set (p:=⟨w.heap.size,2,U⟩) (by simp;omega) (.slice y l.length d));have B:=hid (B.out.trans (l2 w2 w.heap.size 2 (.slice y l.length d)));have z:(w2.setCell ⟨w.heap.size,2,U⟩ (.slice y l.length d)).heap.size=w2.heap.size:=size_set _ _ _;clear u;generalize w2.setCell ⟨w.heap.size,2,U⟩ (.slice y l.length d)=k at q x A B z⊢;have u:=hid q;clear q;have⟨j,I⟩:=blk u.out;have⟨K,N⟩:=blk x.out;go_wp2;exact dB (v:=.agg #[.int .i64 r,.int .i64 t,.slice y l.length d,.bool o,.int .i64 a]) (by simp[results,results132,go_sem,K]) rfl ⟨_,_,rfl,(by repeat(first|(with_reducible exact eh Y3)|(with_reducible refine dh ?_ (by(simp;done)) _)|exact eh Y3)),kj.base (base:=w1.heap.size) (by repeat(first|(with_reducible exact A.out)|(with_reducible refine kj.set ?_ (by simp;omega) _))) Y0⟩
def RD:fi aa.prog 132 [.inr [.int,.int,.bC,.bool,.int]] (λ⟨⟨b,rt,r,m,f,_⟩,_⟩K=>K (.a (z7.d ⟨b,rt,r,m,f⟩))):=by
 rintro⟨⟨b,rt,r,m,f,_⟩,_⟩K hK w o n k;obtain⟨v,rfl,p,l⟩:∃v,o=#[.agg #[.int .i64 b,.int .i64 rt,v,.bool m,.int .i64 f]]/\Sl w 2 v r.length (EL.bC r).di/\r.length<=1099511627776:=by cases h:o.toList with |nil=>rw[h]at n;cases n|cons x rest=>rw[h]at n;match rest,n with|[],⟨⟨us,ex,hu⟩,_⟩=>subst ex;have⟨v,e,g,i⟩:=Xx hu;exact⟨v,bj.1 (by rw[h,show us=#[.int .i64 b,.int .i64 rt,v,.bool m,.int .i64 f]from bj.1 e]),g,i⟩
 apply(Yk b rt v r m f w p l).mono;rintro e t⟨q,c,rfl,j,s⟩;exact⟨_,_,rfl,hK,j,(dR q r.length c).ownBlock.toList,⟨_,rfl,[],_,rfl,⟨rfl,rfl,rfl⟩,[],_,rfl,⟨rfl,rfl,rfl⟩,_,[],(eu _).symm,⟨s,l,rfl⟩,[],[],rfl,⟨rfl,rfl,rfl⟩,[],[],rfl,⟨rfl,rfl,rfl⟩,rfl⟩,Y8⟩
def yq:CS:=cz [.inr [.int,.int,.bC,.bool,.int]] (λ⟨⟨r,rt,b,e,c,_⟩,_⟩K=>K (.a (z7.d ⟨r,rt,b,e,c⟩)))
def zj:bF aa.prog 132 yq:=bc RD
end
section
open Go.RowKit
def EM(x:Int)(w:V):dE aa.prog 105 #[.int .i64 x] w λe w'=>e=.returned (.bool (ed x))/\w=w':=by by_cases h:0<=x;all_goals go_enter aa.func105,ntmps105;go_wp2;go_ret;exact⟨zd5 (by rw[Bool.eq_iff_iff];simp[ed];omega),rfl⟩
def XO(v:Y)(l:List Int)(w:V)(o:ov w v l)(d:l.length<=1099511627776):dE aa.prog 80 #[v] w λe w'=>e=.returned (.bool (iw l))/\w=w':=by
 obtain⟨a,p,rfl,n⟩:=o.form;go_enter aa.func80,ntmps80;go_wp2;go_loop[7](λi=>∃k:Nat,k<=l.length/\i=.int .i64 k/\iw (l.take k)=E)(λi=>l.length-(intOf i).toNat);case atStart=>exact⟨0,a7 _,rfl,rfl⟩
 case round=>
  obtain⟨k,f,rfl,b⟩:=hrel;have j:=hid b;clear b;by_cases h:k<l.length
  .obtain⟨g,q,rfl,m⟩:=n k h;clear n;cases c:ed l[k]
   .go_wp2_with((go_at_call 105;apply(EM _ _).mono;rintro e w'⟨rfl,rfl⟩));go_ret;exact⟨zd5 (tE l k h Y7).symm,rfl⟩
   .go_wp2_with((go_at_call 105;apply(EM _ _).mono;rintro e w'⟨rfl,rfl⟩));go_round;case rel=>exact⟨k+1,Y0,by go_num,by rw[tO l k h,j.out];simp_all⟩
    grind[intOf]
  .go_wp2;go_ret;exact⟨zd5 (by rw[<-j.out,aM Y0]),rfl⟩
def qD(r:Int)(v:Y)(l:List Int)(w:V)(j:ov w v l)(c:l.length<=1099511627776):dE aa.prog 117 #[.agg #[.int .i64 r,v]] w λe w'=>e=.returned (.bool (jJ r l))/\cj w.heap.size w w':=by
 have b:=n9 w (.cells #[.int .i64 r,v] 144);have h:=j.below b;obtain⟨a,k,rfl,_⟩:=j.form;have HB:=hid b;have i:=hid h;clear b h j;by_cases d:1<=r<;>by_cases f:r<=16<;>by_cases g:(l.length:Int)<=r;all_goals try(exfalso;omega)
 all_goals go_enter aa.func117,ntmps117;go_wp2_with((go_at_call 80;apply(XO _ l _ i.out c).mono;rintro e w'⟨rfl,rfl⟩));go_ret;exact⟨zd5 (by first|(simp[jJ,d,f,g];done)|(simp[jJ];intros;omega)),HB.out⟩
def My(w:V)(r:Nat)(a:Nat)(l:List Int):Prop:=∃(c:Array Y)(first:Nat),w.heap[r]?=C (.cells c 274 (0,0))/\c.size=19/\c[16]?=C (.int .i64 a)/\c[17]?=C (.int .i64 first)/\c[18]?=C (.int .i64 l.length)/\first<a/\l.length<=a/\a<=16/\(∀i,i<l.length->c[(first+i)%a]?=C (.int .i64 (l.getD i 0)))/\∀j,j<16->∃x,c[j]?=C (.int .i64 x)
variable{l:List Int}
def zkS{f:Array Y}{bS first:Nat}{b:Int}(u:f.size=19)(g:f[16]?=C (.int .i64 bS))(c:f[17]?=C (.int .i64 first))(k:first<bS)(o:l.length<bS)(v:bS<=16)(s:∀i,i<l.length->f[(first+i)%bS]?=C (.int .i64 (l.getD i 0)))(w:∀j,j<16->∃x,f[j]?=C (.int .i64 x)):let a:=(f.setIfInBounds ((first+l.length)%bS) (.int .i64 b)).setIfInBounds 18 (.int .i64 ((l.length:Int)+1))
  a.size=19/\a[16]?=C (.int .i64 bS)/\a[17]?=C (.int .i64 first)/\a[18]?=C (.int .i64 ((l++[b]).length:Nat))/\(∀i,i<(l++[b]).length->a[(first+i)%bS]?=C (.int .i64 ((l++[b]).getD i 0)))/\∀j,j<16->∃x,a[j]?=C (.int .i64 x):=by
 have p:(first+l.length)%bS<bS:=kv _ Y0;intro a;have q:∀j,a[j]?=if j=18 then C (.int .i64 ((l.length:Int)+1))else if j=(first+l.length)%bS then C (.int .i64 b)else f[j]?:=by grind
 refine⟨Y8,?_,?_,?_,?_,?_⟩;.grind
 .grind
 .simp_all
 .intro i t;have m:(first+i)%bS<bS:=kv _ Y0;rw[q,if_neg Y0];simp[bJ,aW,List.length_nil]at t;by_cases d:i=l.length;.simp_all
  .have n:(first+i)%bS≠(first+l.length)%bS:=by
    intro e;have c:=Nat.mod_add_div (first+i) bS;have r:=Nat.mod_add_div (first+l.length) bS;rw[e]at c;rcases Nat.lt_trichotomy ((first+i)/bS) ((first+l.length)/bS)with h|h|h
    .have:=sn bS (show(first+i)/bS+1<=(first+l.length)/bS by omega);rw[Lr]at this;omega
    .simp_all
    .have:=sn bS (show(first+l.length)/bS+1<=(first+i)/bS by omega);rw[Lr]at this;omega
   rw[if_neg n,s i Y0];simp[nT,cg (show i<l.length by omega)]
 .grind
def zaj(r bS:Nat)(l:List Int)(b:Int)(w:V)(h:My w r bS l)(i:l.length<bS):dE aa.prog 235 #[.pointer (C ⟨r,0,U⟩),.int .i64 b] w λe z=>e=.returned (.bool E)/\My z r bS (l++[b])/\w.grownBy z (C r):=by obtain⟨J,first,a,v,c,f,j,g,D,A,B,y⟩:=h;have R:=hid (zkS (b:=b) v c f g i A B y);obtain⟨x,L⟩:=y ((first+l.length)%bS) (by have:=kv (first+l.length) (show 0<bS by omega);omega);have t:(first+l.length)%bS<bS:=kv _ Y0;have m:((first:Int)+(l.length:Int))%(bS:Int)=(((first+l.length)%bS:Nat):Int):=Y1;have n:((first:Int)+(l.length:Int))%(bS:Int)<16:=Y0;clear m;have o:0<=((first:Int)+(l.length:Int))%(bS:Int):=gN _ Y0;obtain⟨u,M⟩:=blk a;have HB:=hid a;have k:=hid v;clear B y a v;go_enter aa.func235,ntmps235;go_wp2;apply il (λ_=>True) (.op 0 0 (.op 1 0 (.op 2 0 (.op 3 0 (.op 4 0 (.op 5 0 (.op 6 0 (.op 7 0 (.op 8 0 (.nil)))))))))) gK rfl gK gK gK (λ_ _ d _ _ h=>by cases d<;>exact h);go_wp2_with(first|(apply oU Y2 Y2 Y2 Y2;intro K hK)|(apply mq Y2 Y2 Y2 gK;intro K hK)|(apply ni Y2 Y2 Y2 Y2 (by trivial) (by(simp[*];done));intro K hK)|(apply qC));apply il (λ_=>True) (.op 0 0 (.op 1 0 (.op 2 0 (.op 3 0 (.op 4 0 (.op 5 0 (.op 6 0 (.op 7 0 (.op 8 0 (.op 9 0 (.op 10 0 (.op 11 0 (.op 12 0 (.op 13 0 (.op 14 0 (.op 15 0 (.op 16 0 (.op 17 0 (.op 18 0 (.op 19 2 (.nil))))))))))))))))))))) gK rfl gK gK gK (λ_ _ d _ _ h=>by cases d<;>exact h);go_wp2_with(first|(apply oU Y2 Y2 Y2 Y2;intro K hK)|(apply mq Y2 Y2 Y2 gK;intro K hK)|(apply ni Y2 Y2 Y2 Y2 (by trivial) (by(simp[*];done));intro K hK)|(apply qZ Y2 Y2;intro K hK)|(refine qC ?_));go_ret;obtain⟨F,G,I,p,q,s⟩:=R.out;exact⟨rfl,⟨_,first,kK (kK HB.out),F,G,I,p,g,by simp;omega,A,q,s⟩,(by repeat(first|exact Qm _ _|refine Ql ?_|refine Vw ?_ _))⟩
def zkH(r k:Nat)(l:List Int)(b:Int)(w:V)(h:My w r k l)(c:l.length=k):dE aa.prog 235 #[.pointer (C ⟨r,0,U⟩),.int .i64 b] w λe o=>e=.returned (.bool H)/\∃n,o=w.drewN n:=by have⟨u,first,a,s,f,g,i,j,p,v,q,t⟩:=h;have⟨m,x⟩:=blk a;subst c;clear q t a s;go_enter aa.func235,ntmps235;go_wp2;apply il (λ_=>True) (.op 0 0 (.op 1 0 (.op 2 0 (.op 3 0 (.op 4 0 (.op 5 0 (.op 6 0 (.op 7 0 (.op 8 0 (.nil)))))))))) gK rfl gK gK gK (λ_ _ d _ _ h=>by cases d<;>exact h);go_wp2_with(first|(apply oU Y2 Y2 Y2 Y2;intro K hK)|(apply mq Y2 Y2 Y2 gK;intro K hK)|(apply ni Y2 Y2 Y2 Y2 (by trivial) Y7;intro K hK)|(apply qC));go_ret;exact⟨rfl,1,rfl⟩
def My.below{w e:V}{r d:Nat}(h:My w r d l)(b:cj w.heap.size w e):My e r d l:=by have⟨f,first,a,c⟩:=h;exact⟨f,first,aY b (ab.1 a).1 a,c⟩
def EP(y:Nat)(v:Y)(l:List Int)(w:V)(z:ov w v l)(t:1<=y)(p:y<=16)(u:l.length<=y):dE aa.prog 214 #[.agg #[.int .i64 y,v]] w λe w'=>∃r,e=.returned (.pointer (C ⟨r,0,U⟩))/\w.heap.size<=r/\My w' r y l/\cj w.heap.size w w':=by
 obtain⟨a,F,rfl,G⟩:=z.form;have x:Hid (∀k,k<l.length->∀w1,cj w.heap.size w w1->∃g A,a=C _/\w1.cell? _=C (.int .i64 (l.getD k 0))):=λk m w1 q=>by have⟨I,n,o,f⟩:=(z.below q).form;simp[bN,true_and]at o;obtain⟨rfl,rfl⟩:=o;exact f k m
 clear z G;go_enter aa.func214,ntmps214;go_wp2;go_loopw[13](λi wr=>∃k:Nat,k<=l.length/\i=.int .i64 k/\My wr (w.heap.size+1) y (l.take k)/\cj w.heap.size w wr)(λi _=>l.length-(intOf i).toNat);case atStart=>refine⟨0,a7 _,rfl,⟨_,0,ng Y1,Y1,rfl,rfl,rfl,Y0,Y1,p,Y1,?_⟩,jl _ _ _⟩;intro j J;have:j=0\/j=1\/j=2\/j=3\/j=4\/j=5\/j=6\/j=7\/j=8\/j=9\/j=10\/j=11\/j=12\/j=13\/j=14\/j=15:=Y0;rcases this with rfl|rfl|rfl|rfl|rfl|rfl|rfl|rfl|rfl|rfl|rfl|rfl|rfl|rfl|rfl|rfl<;>simp_all
 case round=>
  obtain⟨k,m,rfl,h,d⟩:=hrel;have HR:=hid h;have B:=hid d;clear h;by_cases c:k<l.length
  .obtain⟨g,A,rfl,D⟩:=x.out k c _ d;clear d;go_wp2_with(go_at_call 235;apply(zaj _ _ _ _ _ HR.out (by simp;omega)).mono;rintro e w2⟨rfl,b,s⟩);go_roundw;case rel=>refine⟨k+1,Y0,by go_num,?_,tP B.out s (by have:=B.out.size;omega) Y0⟩;rw[cW,aN c];exact b
   case measure=>simp[intOf];omega
  .clear d;go_wp2;go_ret;have h:=HR.out;rw[aM Y0]at h;exact⟨_,rfl,Y0,h,B.out⟩
def zgv{a:Array Y}{bS first:Nat}{x:Int}(s:a.size=19)(b:a[16]?=C (.int .i64 bS))(f:first<bS)(r:bS<=16)(h:∀i,i<(x::l).length->a[(first+i)%bS]?=C (.int .i64 ((x::l).getD i 0)))(d:∀j,j<16->∃x,a[j]?=C (.int .i64 x)):let c:=(a.setIfInBounds 17 (.int .i64 (((first:Int)+1)%bS))).setIfInBounds 18 (.int .i64 (l.length:Int))
  c.size=19/\c[16]?=C (.int .i64 bS)/\c[17]?=C (.int .i64 (((first+1)%bS:Nat):Int))/\c[18]?=C (.int .i64 (l.length:Nat))/\(∀i,i<l.length->c[((first+1)%bS+i)%bS]?=C (.int .i64 (l.getD i 0)))/\∀j,j<16->∃x,c[j]?=C (.int .i64 x):=by
 intro c;have g:∀j,c[j]?=if j=18 then C (.int .i64 (l.length:Int))else if j=17 then C (.int .i64 (((first:Int)+1)%bS))else a[j]?:=by grind
 refine⟨Y8,?_,?_,?_,?_,?_⟩;.simp_all
 .simp_all
 .simp_all
 .intro i e;have m:((first+1)%bS+i)%bS<bS:=kv _ Y0;rw[g,if_neg Y0,if_neg Y0,Nat.mod_add_mod,gq,Nat.add_comm 1 i,h (i+1) (by simp;omega)];simp
 .grind
def zgK(r k:Nat)(x:Int)(l:List Int)(w:V)(h:My w r k (x::l)):dE aa.prog 215 #[.pointer (C ⟨r,0,U⟩)] w λe u=>e=.returned (.tuple #[.int .i64 x,.bool E])/\My u r k l/\w.grownBy u (C r):=by
 have⟨A,first,b,v,c,i,a,f,s,y,t,z⟩:=h;have R:=hid (zgv v c f y t z);have B:=t 0 Y1;simp[dA,xB f]at B;simp only[aW]at a s;have m:0<=((first:Int)+1)%(k:Int):=gN _ Y0;obtain⟨q,I⟩:=blk b;have HB:=hid b;have j:((l.length:Int)+1==0)=H:=by rw[beq_eq_false_iff_ne];omega
 clear t z b v;have g:A[18]?=C (.int .i64 ((l.length:Int)+1)):=by rw[a];simp
 clear a;go_enter aa.func215,ntmps215;go_wp2;refine il (λ_=>True) (.op 0 0 (.op 1 0 (.op 2 0 (.op 3 0 (.op 4 0 (.op 5 0 (.op 6 0 (.op 7 0 (.op 8 0 (.op 9 2 (.nil))))))))))) gK rfl gK gK gK (λ_ _ d _ _ h=>by cases d<;>exact h) ?_;go_wp2_with(first|(apply oU Y2 Y2 Y2 Y2;intro K hK)|(apply mq Y2 Y2 Y2 gK;intro K hK)|(apply ni Y2 Y2 Y2 Y2 (by trivial) (by(simp[*];done));intro K hK)|(apply qZ Y2 Y2;intro K hK)|(apply qC));apply il (λ_=>True) (.op 0 0 (.op 1 0 (.op 2 0 (.op 3 0 (.op 4 0 (.op 5 0 (.op 6 0 (.op 7 0 (.op 8 0 (.op 9 0 (.op 10 0 (.op 11 0 (.op 12 0 (.op 13 2 (.nil))))))))))))))) gK rfl gK gK gK (λ_ _ d _ _ h=>by cases d<;>exact h);go_wp2_with(first|(apply oU Y2 Y2 Y2 Y2;intro K hK)|(apply mq Y2 Y2 Y2 gK;intro K hK)|(apply ni Y2 Y2 Y2 Y2 (by trivial) (by(simp[*];done));intro K hK)|(apply qZ Y2 Y2;intro K hK)|(apply qC));go_ret2;have⟨D,F,G,n,o,p⟩:=R.out;exact⟨rfl,⟨_,(first+1)%k,kK (kK HB.out),D,F,G,n,kv _ Y0,Y0,y,o,p⟩,(by repeat(first|exact Qm _ _|apply Ql|refine Vw ?_ _))⟩
def take_nil(r i:Nat)(w:V)(h:My w r i []):dE aa.prog 215 #[.pointer (C ⟨r,0,U⟩)] w λe w'=>e=.returned (.tuple #[.int .i64 0,.bool H])/\w=w':=by have⟨m,first,b,s,a,c,d,f,l,n,j,k⟩:=h;have⟨g,o⟩:=blk b;clear j k b s;go_enter aa.func215,ntmps215;go_wp2;go_ret2;simp_all
def zgL(l:List Int)(k:Nat)(h:k<l.length):l.take (k+1)=l.take k++[l[k]]:=Y7
def ZT(r bS:Nat)(l:List Int)(w:V)(h:My w r bS l):dE aa.prog 216 #[.pointer (C ⟨r,0,U⟩)] w λe w'=>∃a c,e=.returned (.agg #[.int .i64 bS,.slice a l.length c])/\iv w' w.heap.size (.slice a l.length c) l/\cj w.heap.size w w':=by
 have⟨cs,first,t,hs,R,D,S,M,hle,hr,hc,Z⟩:=h;have n:=(ab.1 t).1;have⟨N,f0⟩:=blk t;have HB:=hid t;have F:=hid hc;clear hc Z t hs;go_enter aa.func216,ntmps216;go_wp2_with(apply K7 rfl (.tmp 8) rfl l.length rfl Y0 (w.heap.size+1) Y1;intro w1 W p;have⟨c2,f2⟩:=blk (aY p (by simp;omega) (jh HB.out)));have k1:=hid (aY p Y1 (ng rfl));have B:=hid (fp (n9 w _) p);have m:iv w1 (w.heap.size+1) (.slice (C ⟨w.heap.size+1,0,U⟩) 0 l.length) []:=by simpa using W
 clear p W c2 f2;go_loopw[3,14](λv i wr=>∃(k:Nat)(a:Option Addr)(c:Nat),k<=l.length/\i=.int .i64 k/\v=.slice a k c/\iv wr (w.heap.size+1) (.slice a k c) (l.take k)/\cj w.heap.size w wr/\wr.heap[w.heap.size]?=C (.cells #[.int .i64 0,.slice U 0 0] 144 (0,0)))(λ_ i _=>l.length-(intOf i).toNat);case atStart=>exact⟨0,_,_,a7 _,rfl,rfl,m,B.out,k1.out⟩
 case round=>
  obtain⟨k,a,c,O,rfl,rfl,W,B,k1⟩:=hrel;have q:=aY B n HB.out;have⟨c2,f2⟩:=blk q;have T:=hid W;have u:=hid B;have A:=hid k1;have P:=B.size;have G:=(ab.1 k1).1;clear W B k1 q;by_cases s:k<l.length
  .have hx:=F.out k s;have I:0<=((first:Int)+(k:Int))%(bS:Int):=gN _ Y0;have Q:(first+k)%bS<bS:=kv _ Y0;have x:((first:Int)+(k:Int))%(bS:Int)=(((first+k)%bS:Nat):Int):=Y1;have J:((first:Int)+(k:Int))%(bS:Int)<16:=Y0;clear x;go_wp2_with fail;apply il (λb=>b=r) (.op 0 0 (.op 1 0 (.op 2 0 (.op 3 0 (.op 4 0 (.op 5 0 (.op 6 0 (.op 7 0 (.op 8 0 (.op 9 0 (.op 10 0 (.op 11 0 (.op 12 0 (.op 13 0 (.op 14 0 (.op 15 0 (.op 16 0 (.op 17 1 (.op 18 1 (.op 19 2 (.nil))))))))))))))))))))) gK rfl gK gK gK (λ_ _ d _ _ h=>by cases d<;>exact h);go_wp2_with(first|(apply oU Y2 Y2 Y2 Y2;intro K hK)|(apply mq Y2 Y2 Y2 gK;intro K hK)|(apply ni Y2 Y2 Y2 Y2 (by trivial) (by(simp[*];done));intro K hK)|(apply qC));apply XE Y2 Y2;intro K hK;go_wp2_with fail;refine⟨(by exact Ex.alloc _ _ _),?_⟩;refine XE Y2 Y2 ?_;intro K hK;have X:(l.take k++[l[k]]).length=k+1:=by simp;omega
   have f:=λj Z=>(T.out.lt j Z).1;refine Sy (.tmp 17) (.tmp 34) rfl (w.heap.size+1) (.slice a k c) (l.take k) rfl (T.out.alloc _) _ [l[k]] rfl (ov.zyJ wr _) (by simp;omega) (by(simp;omega)) ?_;intro a2 c2 w2 o g _;rw[X]at o⊢;refine hK _ _ ⟨Ex.grown g (λj Z _ e=>by have:=f j Z;omega),?_⟩;have L:=hid (yf g (λe=>by have:=f _ e.symm;omega) (jh A.out));have y:=hid ((u.out.alloc Y0 (.cells #[.int .i64 l[k]] 3)).drew.grown g (by simp;omega) (λj Z=>by have:=f j Z;omega));have z:=hid o;clear f o g X;go_wp2_with(first|(apply qZ Y2 Y2;intro K hK)|(apply qC));go_roundw;case rel=>exact⟨k+1,a2,c2,Y0,by go_num,rfl,by rw[zgL l k s];exact z.out,y.out,L.out⟩
   case measure=>simp[intOf];omega
  .obtain rfl:k=l.length:=Y0;have⟨c3,f3⟩:=blk A.out;have W:=T.out;rw[xz]at W;have W:=hid W;go_wp2;exact dB (by simp[results,results216,go_sem,c3]) rfl ⟨_,_,rfl,iv.base (iv.set (iv.set W.out Y1 _) Y1 _) Y0,(by repeat(first|(with_reducible exact eh Y3)|(with_reducible refine dh ?_ (by(simp;done)) _)|exact eh Y3))⟩
def EH{r:Int}(h:jJ r l=E):∃n:Nat,r=(n:Int)/\1<=n/\n<=16/\l.length<=n/\iw l=E:=by simp[jJ,aj,decide_eq_true_eq]at h;have⟨⟨⟨b,c⟩,d⟩,a⟩:=h;exact⟨r.toNat,Y0,Y0,Y0,Y0,a⟩
def Tb(A:Int)(v:Y)(x:Int)(l:List Int)(w:V)(G:ov w v (x::l))(f:jJ A (x::l)=E):dE aa.prog 189 #[.agg #[.int .i64 A,v]] w λe I=>∃a c,e=.returned (.tuple #[.agg #[.int .i64 A,.slice a l.length c],.int .i64 x,.bool E])/\cj w.heap.size w I/\iv I w.heap.size (.slice a l.length c) l:=by have y:=hid f;obtain⟨n,rfl,k,m,p,-⟩:=EH f;obtain⟨a,J,rfl,-⟩:=G.form;have j:=hid G;clear G f;go_enter aa.func189,ntmps189;go_wp2_with fail;apply(qD _ _ _ _ (j.out.below (jl _ _ _)) Y0).mono;rintro e w1⟨rfl,g⟩;rw[y.out];have⟨F,B,z,D⟩:=Pa g;have q:=hid (j.out.below D);have⟨s,K⟩:=blk F;have F:=hid F;have B:=hid B;have D:=hid D;clear g;go_wp2_with fail;apply(EP n _ (x::l) _ q.out k m p).mono;rintro e w2⟨r,rfl,M,h,b⟩;have HR:=hid h;(have B:=hid (aY b Y0 B.out));have D:=hid (fp D.out b);clear h b s K F;go_wp2_with fail;apply(zgK r n x l _ HR.out).mono;rintro e w3⟨rfl,h,i⟩;have HR:=hid h;(have B:=hid (yf i Y8 B.out));have D:=hid (tP D.out i (by have:=D.out.size;omega) Y0);clear h i;go_wp2_with fail;apply(ZT r n l _ HR.out).mono;rintro e w4⟨N,O,rfl,o,d⟩;have t:=(ab.1 B.out).1;(have B:=hid (aY d Y0 B.out));have D:=hid (fp D.out d);have u:=hid o;clear o d;have⟨L,P⟩:=blk B.out;go_wp2;exact dB (by simp[results,results189,go_sem,L]) rfl ⟨_,_,rfl,(by repeat(first|(with_reducible exact eh Y3)|(with_reducible refine dh ?_ (by(simp;done)) _)|exact eh Y3)),iv.base (iv.set (iv.set u.out (by simp;omega) _) (by simp;omega) _) Y0⟩
def XF(r:Int)(v:Y)(l:List Int)(w:V)(f:ov w v l)(h:l.length<=1099511627776)(o:jJ r l=H):dE aa.prog 189 #[.agg #[.int .i64 r,v]] w λe w'=>e=.returned (.tuple #[.agg #[.int .i64 0,.slice U 0 0],.int .i64 0,.bool H])/\cj w.heap.size w w':=by have d:=hid o;obtain⟨a,g,rfl,-⟩:=f.form;have c:=hid f;clear f o;go_enter aa.func189,ntmps189;go_wp2_with fail;apply(qD _ _ _ _ (c.out.below (jl _ _ _)) h).mono;rintro e w1⟨rfl,b⟩;rw[d.out];have⟨k,i,z,B⟩:=Pa b;have⟨j,m⟩:=blk i;clear b;go_wp2;exact dB (by simp[results,results189,go_sem,j]) rfl ⟨rfl,(by repeat(first|(with_reducible omega)|(with_reducible refine dh ?_ (by(simp;done)) _)|exact eh Y3))⟩
def XG(m:Int)(v:Y)(w:V)(s:ov w v [])(o:jJ m []=E):dE aa.prog 189 #[.agg #[.int .i64 m,v]] w λe w'=>e=.returned (.tuple #[.agg #[.int .i64 0,.slice U 0 0],.int .i64 0,.bool H])/\cj w.heap.size w w':=by have l:=hid o;obtain⟨n,rfl,f,g,i,-⟩:=EH o;obtain⟨a,t,rfl⟩:=s.nil;have d:=hid s;clear s o;go_enter aa.func189,ntmps189;go_wp2_with fail;apply(qD _ _ [] _ (d.out.below (jl _ _ _)) Y1).mono;rintro e w1⟨rfl,c⟩;rw[l.out];have⟨q,p,z,B⟩:=Pa c;have j:=hid (d.out.below B);have⟨k,u⟩:=blk q;have q:=hid q;have p:=hid p;have B:=hid B;clear c;go_wp2_with fail;apply(EP n _ [] _ j.out f g i).mono;rintro e w2⟨r,rfl,y,h,b⟩;have HR:=hid h;(have p:=hid (aY b Y0 p.out));have B:=hid (fp B.out b);clear h b k u q;go_wp2_with fail;apply(take_nil r n _ HR.out).mono;rintro e w3⟨rfl,rfl⟩;have⟨x,A⟩:=blk p.out;go_wp2;exact dB (by simp[results,results189,go_sem,x]) rfl ⟨rfl,(by repeat(first|(with_reducible exact eh Y3)|(with_reducible refine dh ?_ (by(simp;done)) _)|exact eh Y3))⟩
open Ab
def Ro:fi aa.prog 189 [.inr [.int,.bn]] (λ⟨⟨r,l,_⟩,_⟩K=>K (F5 r l).d):=by
 rintro⟨⟨r,l,_⟩,_⟩K hK w B t s;have hK:K (F5 r l).d:=hK;obtain⟨v,rfl,A,i⟩:∃v,B=#[.agg #[.int .i64 r,v]]/\ov w v l/\l.length<=1099511627776:=by cases h:B.toList with |nil=>rw[h]at t;cases t|cons a rest=>rw[h]at t;obtain⟨⟨D,rfl,y⟩,t⟩:=t;cases rest with |cons _ _=>cases t|nil=>cases u:D.toList with |nil=>rw[u]at y;cases y|cons b rest=>rw[u]at y;cases rest with |nil=>cases y.2|cons v rest=>have⟨j,⟨k,m⟩,p⟩:=y;cases rest with|cons _ _=>cases p|nil=>have q:D=#[.int .i64 r,v]:=bj.1 (by rw[u];have :=j;rw[this]);exact⟨v,bj.1 (by rw[h,q]),k,m⟩
 have n:∀(z:V),cj w.heap.size w z->F5 r l=⟨0,[],0,H⟩->∃d v,nv (.tuple #[.agg #[.int .i64 0,.slice U 0 0],.int .i64 0,.bool H])=.returned v/\K d/\cj w.heap.size w z/\∃F,frV z w.heap.size d v F/\F.Nodup:=by intro z f g;rw[g]at hK;exact⟨_,_,rfl,hK,f,[],⟨_,rfl,[],[],rfl,⟨_,rfl,[],[],rfl,⟨rfl,rfl,rfl⟩,[],[],rfl,⟨World.ownsRow_nil _ _ _ _,a7 _,rfl⟩,rfl⟩,[],[],rfl,⟨rfl,rfl,rfl⟩,[],[],rfl,⟨rfl,rfl,rfl⟩,rfl⟩,Bp⟩
 cases o:jJ r l with|false=>apply(XF r v l w A i o).mono;simp_all[F5]|true=>
  cases l with|nil=>apply(XG r v w A o).mono;simp_all[F5]|cons x l=>
   apply(Tb r v x l w A o).mono;rintro e z⟨a,c,rfl,f,G⟩;have g:F5 r (x::l)=⟨r,l,x,E⟩:=by simp[F5,o]
   rw[g]at hK;refine⟨_,_,rfl,hK,f,(dR a l.length c).ownBlock.toList,⟨_,rfl,(dR a l.length c).ownBlock.toList,[],(eu _).symm,⟨_,rfl,[],_,rfl,⟨rfl,rfl,rfl⟩,_,[],(eu _).symm,⟨G,?_,rfl⟩,rfl⟩,[],[],rfl,⟨rfl,rfl,rfl⟩,[],[],rfl,⟨rfl,rfl,rfl⟩,rfl⟩,Y8⟩;simp at i;show l.length<=1099511627776;omega
def G6:CS:=cz [.inr [.int,.bn]] (λ⟨⟨r,l,_⟩,_⟩K=>K (F5 r l).d)
def MI:bF aa.prog 189 G6:=bc Ro
def rL:bK:=[]
def xQ:aR aa.prog rL:=an trivial
def kE:CS:=FQ fQ rL eT f118
def lu:bF aa.prog 118 kE:=ziR aJ au xQ (Rn.fM func118) gK
def Sc:bK:=[]
def Ip:aR aa.prog Sc:=an trivial
def yI:DA [.inr [.int,.bn,.int,.int]]->(DV->Prop)->Prop:=λ⟨⟨r,l,s,f,_⟩,_⟩K=>K (.a (zw.d ⟨r,l,s,f⟩))
def RE:fi aa.prog 133 [.inr [.int,.bn,.int,.int]] yI:=by
 apply aV (TR:=eT) aJ au Ip (Rn.fM func133) rfl;dsimp only[DA,HL,Sh.T];rintro⟨⟨r,l,s,f,_⟩,_⟩K hK⟨⟨_,h,_⟩,_⟩;dsimp only[yI]at hK;repeat'((conv=>whnf);(apply U0;exact gS))
 (apply gI hK;repeat' first|exact gR|apply U0);all_goals rfl
def yr:CS:=cz [.inr [.int,.bn,.int,.int]] yI
def zk:bF aa.prog 133 yr:=bc RE
def NG:bK:=[(118,kE),(117,Dy),(105,yc)]
def Fq:aR aa.prog NG:=an ⟨lu,JI,vZ,aA⟩
def wu:DA [.inr [.int,.bn,.int,.int]]->(DV->Prop)->Prop:=λ⟨⟨r,l,s,f,_⟩,_⟩K=>K (.l (.v (.bool (lg ⟨r,l,s,f⟩))))
def Nb:fi aa.prog 97 [.inr [.int,.bn,.int,.int]] wu:=by
 apply aV (TR:=eT) aJ au Fq (Rn.fM func97) rfl;dsimp only[DA,HL,Sh.T];rintro⟨⟨r,l,s,f,_⟩,_⟩K hK⟨⟨_,c,_⟩,_⟩;dsimp only[wu]at hK;repeat'(conv=>whnf);first|apply U0;exact gS|apply gU;exact gA|refine gB ?_ ?_<;>intro b h<;>try exact bG
 all_goals(apply gI hK;repeat' first|exact gR|apply U0);simp[lg, *]
def nn:CS:=cz [.inr [.int,.bn,.int,.int]] wu
def mG:bF aa.prog 97 nn:=bc Nb
def R7:bK:=[(97,nn),(133,yr),(118,kE),(189,G6)]
def Ig:aR aa.prog R7:=an ⟨mG,zk,lu,MI,aA⟩
def yE:DA [.inr [.int,.bn,.int,.int]]->(DV->Prop)->Prop:=λ⟨⟨r,l,s,f,_⟩,_⟩K=>K (kJ ⟨r,l,s,f⟩).d
def Ry:fi aa.prog 144 [.inr [.int,.bn,.int,.int]] yE:=by
 apply aV (TR:=eT) aJ au Ig (Rn.fM func144) rfl;dsimp only[DA,HL,Sh.T];rintro⟨⟨r,l,s,f,_⟩,_⟩K hK⟨⟨_,e,_⟩,_⟩;dsimp only[yE]at hK;refine eK (p:=lg ⟨r,l,s,f⟩=E) (λv=>?_) (λv=>?_)
 .have b:=iU v;dsimp only at b;have o:jJ r l=E:=by simp_all[lg,aj]
  repeat'(conv=>whnf);first|apply U0;exact gS|apply gU;exact gA|refine gB ?_ ?_<;>intro a h<;>try exact bG
  all_goals(refine gI hK ?_;repeat' first|exact gR|apply U0)
  all_goals clear hK
  all_goals(by_cases c:f=1<;>first|(exfalso;omega)|skip)
  all_goals(cases l<;>simp_all[kJ,fI,y5,F5]<;>first|done)
 .have v:lg ⟨r,l,s,f⟩=H:=Y7;repeat'(conv=>whnf);first|apply U0;exact gS|refine gB ?_ ?_<;>intro a h<;>try exact bG
  (refine gI hK ?_;repeat' first|exact gR|apply U0);all_goals simp[kJ,v,EL.len]
def Hb:CS:=cz [.inr [.int,.bn,.int,.int]] yE
def MN:bF aa.prog 144 Hb:=bc Ry
def NS:bK:=[(94,vk),(89,jf)]
def FE:aR aa.prog NS:=an ⟨tR,eZ,aA⟩
def wF:DA [.inr [.int,.bn,.int,.int]]->(DV->Prop)->Prop:=λ⟨⟨r,l,s,f,_⟩,_⟩K=>K (.l (.v (.bool (lg ⟨r,l,s,f⟩))))
def Nn:fi aa.prog 91 [.inr [.int,.bn,.int,.int]] wF:=by
 apply aV (TR:=eT) aJ au FE (Rn.fM func91) rfl;dsimp only[DA,HL,Sh.T];rintro⟨⟨r,l,s,f,_⟩,_⟩K hK⟨⟨_,c,_⟩,_⟩;dsimp only[wF]at hK;repeat'(conv=>whnf);first|apply U0;exact gS|apply gU;exact gA|refine gB ?_ ?_<;>intro b h<;>try exact bG
 all_goals(apply gI hK;repeat' first|exact gR|apply U0);simp_all[lg,jJ,ed];try omega
def qG:CS:=cz [.inr [.int,.bn,.int,.int]] wF
def qk:bF aa.prog 91 qG:=bc Nn
def Km:bK:=[(97,nn)]
def De:aR aa.prog Km:=an ⟨mG,aA⟩
def tZ:DA [.inr [.int,.bn,.int,.int]]->(DV->Prop)->Prop:=λ⟨⟨r,l,s,f,_⟩,_⟩K=>K (.l (.v (.int .i64 (jU ⟨r,l,s,f⟩))))
def J1:fi aa.prog 226 [.inr [.int,.bn,.int,.int]] tZ:=by
 refine aV (TR:=eT) aJ au De (Rn.fM func226) rfl ?_;dsimp only[DA,HL,Sh.T];rintro⟨⟨r,l,s,f,_⟩,_⟩K hK⟨⟨_,hl,_⟩,_⟩;dsimp only[tZ]at hK;replace hl:=gl l hl;repeat'(conv=>whnf);first|refine U0 ?_ ?_;exact gS|refine U1 ?_|apply gU;exact gA|refine gB ?_ ?_<;>intro b h<;>try exact bG
 all_goals(refine gI hK ?_;repeat' first|exact gR|refine U0 ?_ ?_)
 all_goals clear hK
 all_goals(simp_all[jU,EL.len]<;>first|done|omega)
def Bz:CS:=cz [.inr [.int,.bn,.int,.int]] tZ
def HN:bF aa.prog 226 Bz:=bc J1
def T9:bK:=[]
def KF:aR aa.prog T9:=an trivial
def Yx:Nat->Tr:=λn=>match n with|1=>iu [0,0,1,0,3,0,4,0,6,0,7,0,8,0,9,0] (.iY 2 1 (.iY 5 1 (iu [10,0,11,1,12,2] .nil) 11 1 (iu [5,1,10,1,12,2] .nil)) 11 1 (iu [2,1,5,1,10,1,12,2] .nil))|_=>.nil
def Mh:DA [.inr [.int,.bn,.int,.int]]->(DV->Prop)->Prop:=λ⟨⟨r,l,s,f,_⟩,_⟩K=>af (lg ⟨r,l,s,f⟩=E)<|K (.t [.inr (fI ⟨r,l,s,f⟩).1.d,.inl (.v (.int .i64 (fI ⟨r,l,s,f⟩).2))])
def TD:fi aa.prog 136 [.inr [.int,.bn,.int,.int]] Mh:=by
 refine aV (TR:=Yx) aJ au KF (Rn.fM func136) rfl ?_;dsimp only[DA,HL,Sh.T];rintro⟨⟨r,l,s,f,_⟩,_⟩K⟨e,hK⟩⟨⟨_,hl,_⟩,_⟩;replace hK:K (.t [.inr (fI ⟨r,l,s,f⟩).1.d,.inl (.v (.int .i64 (fI ⟨r,l,s,f⟩).2))]):=hK;replace hl:=gl l hl;have b:=iU e;dsimp only at b;repeat'(conv=>whnf);first|refine U0 ?_ ?_;exact gS|refine dS.mk ?_ ?_;exact wP|refine U1 ?_|apply gU;exact gA|refine gB ?_ ?_<;>intro a h<;>try exact bG
 all_goals(refine gI hK ?_;repeat' first|exact gR|refine U0 ?_ ?_)
 all_goals clear hK
 all_goals(by_cases c:f=1<;>first|(exfalso;omega)|skip)
 all_goals(by_cases i:s=-1<;>first|(exfalso;omega)|skip)
 all_goals(cases l<;>simp_all[fI,y5,EL.len]<;>first|done|omega)
def LL:CS:=cz [.inr [.int,.bn,.int,.int]] Mh
def Rc:bF aa.prog 136 LL:=bc TD
def RZ:bK:=[(96,nk),(132,yq)]
def Ie:aR aa.prog RZ:=an ⟨mF,zj,aA⟩
def yD:DA [.inr [.int,.int,.bC,.bool,.int]]->(DV->Prop)->Prop:=λ⟨⟨r,rt,a,c,b,_⟩,_⟩K=>K (Ew ⟨r,rt,a,c,b⟩).d
def Rw:fi aa.prog 145 [.inr [.int,.int,.bC,.bool,.int]] yD:=by
 apply aV (TR:=eT) aJ au Ie (Rn.fM func145) rfl;dsimp only[DA,HL,Sh.T];rintro⟨⟨a,rt,r,f,b,_⟩,_⟩K hK⟨⟨_,_,l,_⟩,_⟩;dsimp only[yD]at hK;refine eK (p:=fT ⟨a,rt,r,f,b⟩=E) (λv=>?_) (λv=>?_)
 .have c:=nu v;dsimp only at c;have e:Ew ⟨a,rt,r,f,b⟩=⟨Av ⟨a,rt,r,f,b⟩,E⟩:=by simp[Ew,v]
  rw[e]at hK;repeat'(conv=>whnf);first|apply U0;exact gS|refine gB ?_ ?_<;>intro d h<;>try exact bG
  all_goals(apply gI hK;repeat' first|exact gR|apply U0)
  all_goals(simp_all[Av,EL.len]<;>first|done)
 .have v:fT ⟨a,rt,r,f,b⟩=H:=Y7;have e:Ew ⟨a,rt,r,f,b⟩=⟨IW,H⟩:=by simp[Ew,v]
  rw[e]at hK;exact gW
def Ha:CS:=cz [.inr [.int,.int,.bC,.bool,.int]] yD
def MM:bF aa.prog 145 Ha:=bc Rw
def T7:bK:=[(208,rz)]
def KD:aR aa.prog T7:=an ⟨tQ,aA⟩
def Yw:Nat->Tr:=λn=>match n with|1=>iu [0,0,2,0,3,0] (.iY 1 1 (.iY 4 1 (.iY 5 1 (iu [6,1,7,2] .nil) 6 1 (iu [5,1,7,2] .nil)) 6 1 (iu [4,1,5,1,7,2] .nil)) 6 1 (iu [1,1,4,1,5,1,7,2] .nil))|_=>.nil
def Mg:DA [.inr [.int,.int,.bC,.bool,.int]]->(DV->Prop)->Prop:=λ⟨⟨b,rt,c,e,r,_⟩,_⟩K=>af (0<=r/\r<=99)<|K (.a (z7.d (Av ⟨b,rt,c,e,r⟩)))
def TC:fi aa.prog 176 [.inr [.int,.int,.bC,.bool,.int]] Mg:=by
 apply aV (TR:=Yw) aJ au KD (Rn.fM func176) rfl;dsimp only[DA,HL,Sh.T];rintro⟨⟨c,rt,b,d,r,_⟩,_⟩K⟨v,hK⟩⟨⟨_,_,l,_⟩,_⟩;have v:0<=r/\r<=99:=v;have l:=gl b l;repeat'(conv=>whnf);first|apply U0;exact gS|apply dS.mk;exact wP|apply U1|refine gB ?_ ?_<;>intro e h<;>try exact bG
 all_goals(apply gI hK;repeat' first|exact gR|apply U0)
 all_goals(simp_all[Av,EL.len]<;>first|done)
def LK:CS:=cz [.inr [.int,.int,.bC,.bool,.int]] Mg
def Rb:bF aa.prog 176 LK:=bc TC
def ND:bK:=[(96,nk)]
def Fo:aR aa.prog ND:=an ⟨mF,aA⟩
def wo:DA [.inr [.int,.int,.bC,.bool,.int]]->(DV->Prop)->Prop:=λ⟨⟨r,rt,a,c,b,_⟩,_⟩K=>K (.l (.v (.int .i64 (mS ⟨r,rt,a,c,b⟩))))
def Na:fi aa.prog 227 [.inr [.int,.int,.bC,.bool,.int]] wo:=by
 apply aV (TR:=eT) aJ au Fo (Rn.fM func227) rfl;dsimp only[DA,HL,Sh.T];rintro⟨⟨a,rt,r,e,b,_⟩,_⟩K hK⟨⟨_,_,l,_⟩,_⟩;dsimp only[wo]at hK;repeat'(conv=>whnf);first|apply U0;exact gS|apply gU;exact gA|refine gB ?_ ?_<;>intro c h<;>try exact bG
 all_goals(apply gI hK;repeat' first|exact gR|apply U0)
 all_goals clear hK
 all_goals(simp_all[mS,EL.len]<;>omega)
def DG:CS:=cz [.inr [.int,.int,.bC,.bool,.int]] wo
def JN:bF aa.prog 227 DG:=bc Na
def NP:bK:=[(90,k7)]
def FC:aR aa.prog NP:=an ⟨kh,aA⟩
def wD:DA [.inr [.int,.int,.bC,.bool,.int]]->(DV->Prop)->Prop:=λ⟨⟨r,rt,a,c,b,_⟩,_⟩K=>K (.l (.v (.int .i64 (mS ⟨r,rt,a,c,b⟩))))
def Nk:fi aa.prog 182 [.inr [.int,.int,.bC,.bool,.int]] wD:=by
 apply aV (TR:=eT) aJ au FC (Rn.fM func182) rfl;dsimp only[DA,HL,Sh.T];rintro⟨⟨b,rt,r,f,a,_⟩,_⟩K hK⟨⟨_,_,l,_⟩,_⟩;dsimp only[wD]at hK;refine eK (p:=fT ⟨b,rt,r,f,a⟩=E) (λv=>?_) (λv=>?_)
 .have c:=nu v;dsimp only at c;have e:mS ⟨b,rt,r,f,a⟩=(if rt<=r.length then 1 else if 0<r.length/\4<=a then 2 else 0):=by simp[mS,v]
  rw[e]at hK;clear e;repeat'(conv=>whnf);first|apply U0;exact gS|apply gU;exact gA|refine gB ?_ ?_<;>intro d h<;>try exact bG
  all_goals(apply gI hK;repeat' first|exact gR|apply U0)
  all_goals clear hK
  all_goals
   dsimp only[EL.len]at*;repeat' split
   all_goals omega
 .have v:fT ⟨b,rt,r,f,a⟩=H:=Y7;have e:mS ⟨b,rt,r,f,a⟩=0:=by simp[mS,v]
  rw[e]at hK;exact gW
def DK:CS:=cz [.inr [.int,.int,.bC,.bool,.int]] wD
def JR:bF aa.prog 182 DK:=bc Nk
def Kk:bK:=[(96,nk)]
def Dc:aR aa.prog Kk:=an ⟨mF,aA⟩
def tY:DA [.inr [.int,.int,.bC,.bool,.int]]->(DV->Prop)->Prop:=λ⟨⟨r,rt,a,c,b,_⟩,_⟩K=>K (.l (.v (.int .i64 (fV ⟨r,rt,a,c,b⟩))))
def J0:fi aa.prog 225 [.inr [.int,.int,.bC,.bool,.int]] tY:=by
 apply aV (TR:=eT) aJ au Dc (Rn.fM func225) rfl;dsimp only[DA,HL,Sh.T];rintro⟨⟨r,rt,rl,c,a,_⟩,_⟩K hK⟨⟨_,_,l,_⟩,_⟩;dsimp only[tY]at hK;refine eK (p:=fT ⟨r,rt,rl,c,a⟩=E) (λv=>?_) (λv=>?_)
 .have e:fV ⟨r,rt,rl,c,a⟩=(if c then 2 else 0)+qN rl:=by simp[fV,v]
  rw[e]at hK;clear e;match rl with
  |[]=>
   repeat'(conv=>whnf);first|apply U0;exact gS|apply gU;exact gA|refine gB ?_ ?_<;>intro b h<;>try exact bG
   all_goals(apply gI hK;repeat' first|exact gR|apply U0)
   all_goals clear hK
   all_goals(simp_all[qN]<;>omega)|g::m=>
   repeat'(conv=>whnf);first|apply U0;exact gS|apply gU;exact gA|refine gB ?_ ?_<;>intro b h<;>try exact bG
   all_goals(apply gI hK;repeat' first|exact gR|apply U0)
   all_goals clear hK
   all_goals(simp_all[qN]<;>omega)
 .have v:fT ⟨r,rt,rl,c,a⟩=H:=Y7;have e:fV ⟨r,rt,rl,c,a⟩=-1:=by simp[fV,v]
  rw[e]at hK;exact gW
def By:CS:=cz [.inr [.int,.int,.bC,.bool,.int]] tY
def HK:bF aa.prog 225 By:=bc J0
def KA:bK:=[(90,k7)]
def Dn:aR aa.prog KA:=an ⟨kh,aA⟩
def uj:DA [.inr [.int,.int,.bC,.bool,.int]]->(DV->Prop)->Prop:=λ⟨⟨r,rt,a,c,b,_⟩,_⟩K=>K (.l (.v (.int .i64 (fV ⟨r,rt,a,c,b⟩))))
def Kb:fi aa.prog 210 [.inr [.int,.int,.bC,.bool,.int]] uj:=by
 apply aV (TR:=eT) aJ au Dn (Rn.fM func210) rfl;dsimp only[DA,HL,Sh.T];rintro⟨⟨r,rt,rl,c,a,_⟩,_⟩K hK⟨⟨_,_,l,_⟩,_⟩;dsimp only[uj]at hK;refine eK (p:=fT ⟨r,rt,rl,c,a⟩=E) (λv=>?_) (λv=>?_)
 .have e:fV ⟨r,rt,rl,c,a⟩=(if c then 2 else 0)+qN rl:=by simp[fV,v]
  rw[e]at hK;clear e;match rl with
  |[]=>
   repeat'(conv=>whnf);first|apply U0;exact gS|apply gU;exact gA|refine gB ?_ ?_<;>intro b h<;>try exact bG
   all_goals(refine gI hK ?_;repeat' first|exact gR|apply U0)
   all_goals clear hK
   all_goals(simp_all[qN]<;>omega)|g::m=>
   repeat'(conv=>whnf);first|apply U0;exact gS|refine gB ?_ ?_<;>intro b h<;>try exact bG
   all_goals(refine gI hK ?_;repeat' first|exact gR|apply U0)
   all_goals clear hK
   all_goals(simp_all[qN]<;>omega)
 .have v:fT ⟨r,rt,rl,c,a⟩=H:=Y7;have e:fV ⟨r,rt,rl,c,a⟩=-1:=by simp[fV,v]
  rw[e]at hK;exact gW
def BJ:CS:=cz [.inr [.int,.int,.bC,.bool,.int]] uj
def HW:bF aa.prog 210 BJ:=bc Kb
def KC:bK:=[(91,qG)]
def Dp:aR aa.prog KC:=an ⟨qk,aA⟩
def uk:DA [.inr [.int,.bn,.int,.int]]->(DV->Prop)->Prop:=λ⟨⟨s,b,c,a,_⟩,_⟩K=>K (.l (.v (.int .i64 (jU ⟨s,b,c,a⟩))))
def Kc:fi aa.prog 211 [.inr [.int,.bn,.int,.int]] uk:=by
 apply aV (TR:=eT) aJ au Dp (Rn.fM func211) rfl;dsimp only[DA,HL,Sh.T];rintro⟨⟨s,d,f,a,_⟩,_⟩K hK⟨⟨_,l,_⟩,_⟩;dsimp only[uk]at hK;refine eK (p:=lg ⟨s,d,f,a⟩=E) (λv=>?_) (λv=>?_)
 .have b:=iU v;dsimp only at b;have e:jU ⟨s,d,f,a⟩=(if 0<d.length then 0 else if f=-1 then 96 else 32):=by simp[jU,v]
  rw[e]at hK;clear e;repeat'(conv=>whnf);first|apply U0;exact gS|refine gB ?_ ?_<;>intro c h<;>try exact bG
  all_goals(apply gI hK;repeat' first|exact gR|apply U0)
  all_goals clear hK
  all_goals
   dsimp only[EL.len]at*;repeat' split
   all_goals omega
 .have v:lg ⟨s,d,f,a⟩=H:=Y7;have e:jU ⟨s,d,f,a⟩=-1:=by simp[jU,v]
  rw[e]at hK;exact gW
def BK:CS:=cz [.inr [.int,.bn,.int,.int]] uk
def HX:bF aa.prog 211 BK:=bc Kc
def Ho:bK:=[]
def NH:aR aa.prog Ho:=an trivial
def yb:CS:=FQ fQ Ho eT f72
def vY:bF aa.prog 72 yb:=eP aJ au NH (Rn.fM func72)
def B8:bK:=[(96,nk),(97,nn)]
def xS:aR aa.prog B8:=an ⟨mF,mG,aA⟩
def nP:DA [.inr [.int,.int,.bC,.bool,.int,.int,.bn,.int,.int]]->(DV->Prop)->Prop:=λ⟨⟨r,rt,a,d,b,s,e,f,c,_⟩,_⟩K=>K (.l (.v (.bool (fT ⟨r,rt,a,d,b⟩&&lg ⟨s,e,f,c⟩))))
def BZ:fi aa.prog 73 [.inr [.int,.int,.bC,.bool,.int,.int,.bn,.int,.int]] nP:=by
 apply aV (TR:=eT) aJ au xS (Rn.fM func73) rfl;rintro⟨⟨r,rt,a,e,b,s,f,g,c,_⟩,_⟩K hK _;dsimp only[nP]at hK;repeat'(conv=>whnf);first|apply U0;exact gS|apply gU;exact gA|refine gB ?_ ?_<;>intro d h<;>try exact bG
 all_goals(apply gI hK;repeat' first|exact gR|apply U0);simp[*]
def uD:CS:=cz [.inr [.int,.int,.bC,.bool,.int,.int,.bn,.int,.int]] nP
def zR:bF aa.prog 73 uD:=bc BZ
def zX:bK:=[(225,By),(226,Bz)]
def wO:aR aa.prog zX:=an ⟨HK,HN,aA⟩
def Cd:Nat->Tr:=λn=>match n with|1=>iu [0,0,1,0,3,0,4,0,2,1,5,1,6,1,7,2] .nil|_=>.nil
def su:DA [.inr [.int,.int,.bC,.bool,.int,.int,.bn,.int,.int]]->(DV->Prop)->Prop:=λ⟨⟨r,rt,a,d,b,s,e,f,c,_⟩,_⟩K=>af (rng .i64 (fV ⟨r,rt,a,d,b⟩+jU ⟨s,e,f,c⟩))<|K (.l (.v (.int .i64 (fV ⟨r,rt,a,d,b⟩+jU ⟨s,e,f,c⟩))))
def zS:fi aa.prog 200 [.inr [.int,.int,.bC,.bool,.int,.int,.bn,.int,.int]] su:=by apply aV (TR:=Cd) aJ au wO (Rn.fM func200) rfl;rintro⟨⟨r,rt,a,d,b,s,e,f,c,_⟩,_⟩K⟨v,hK⟩_;exact gW
def mY:CS:=cz [.inr [.int,.int,.bC,.bool,.int,.int,.bn,.int,.int]] su
def pr:bF aa.prog 200 mY:=bc zS
def B7:bK:=[(227,DG)]
def xR:aR aa.prog B7:=an ⟨JN,aA⟩
def uJ:DA [.inr [.int,.int,.bC,.bool,.int,.int,.bn,.int,.int]]->(DV->Prop)->Prop:=λ⟨⟨r,rt,a,d,b,s,e,f,c,_⟩,_⟩K=>K (.l (.v (.int .i64 (mS ⟨r,rt,a,d,b⟩))))
def BY:fi aa.prog 201 [.inr [.int,.int,.bC,.bool,.int,.int,.bn,.int,.int]] uJ:=by apply aV (TR:=eT) aJ au xR (Rn.fM func201) rfl;rintro⟨⟨r,rt,a,d,b,s,e,f,c,_⟩,_⟩K hK _;exact gW
def uC:CS:=cz [.inr [.int,.int,.bC,.bool,.int,.int,.bn,.int,.int]] uJ
def zQ:bF aa.prog 201 uC:=bc BY
def NB:bK:=[(71,rU),(72,yb),(73,uD)]
def Fj:aR aa.prog NB:=an ⟨uB,vY,zR,aA⟩
def wj:DA [mQ]->(DV->Prop)->Prop:=λ⟨⟨f,b,h,p,i,r,rt,c,j,d,s,k,n,e,o,g,m,a,_⟩,_⟩K=>K (.l (.v (.bool (eL ⟨⟨f,b,h⟩,p,i,⟨r,rt,c,j,d⟩,⟨s,k,n,e⟩,⟨o,g,m,a⟩⟩))))
def M8:fi aa.prog 51 [mQ] wj:=by
 apply aV (TR:=eT) aJ au Fj (Rn.fM func51) rfl;rintro⟨⟨f,b,j,p,k,r,rt,c,l,d,s,n,o,e,q,g,m,a,_⟩,_⟩K hK _;dsimp only[wj]at hK;repeat'(conv=>whnf);first|apply U0;exact gS|apply gU;exact gA|refine gB ?_ ?_<;>intro i h<;>try exact bG
 all_goals(apply gI hK;repeat' first|exact gR|apply U0);first|(simp_all[eL];done)|(simp_all[eL];intros;omega)
def jI:CS:=cz [mQ] wj
def iz:bF aa.prog 51 jI:=bc M8
def NN:bK:=[(88,rX),(89,jf),(90,k7),(91,qG)]
def Fy:aR aa.prog NN:=an ⟨uE,eZ,kh,qk,aA⟩
def wC:DA [mQ]->(DV->Prop)->Prop:=λ⟨⟨f,b,h,p,i,r,rt,c,j,d,s,k,n,e,o,g,m,a,_⟩,_⟩K=>K (.l (.v (.bool (eL ⟨⟨f,b,h⟩,p,i,⟨r,rt,c,j,d⟩,⟨s,k,n,e⟩,⟨o,g,m,a⟩⟩))))
def Ni:fi aa.prog 64 [mQ] wC:=by
 apply aV (TR:=eT) aJ au Fy (Rn.fM func64) rfl;rintro⟨⟨f,b,j,p,k,r,rt,c,l,d,s,n,o,e,q,g,m,a,_⟩,_⟩K hK _;dsimp only[wC]at hK;repeat'(conv=>whnf);first|apply U0;exact gS|apply gU;exact gA|refine gB ?_ ?_<;>intro i h<;>try exact bG
 all_goals(apply gI hK;repeat' first|exact gR|apply U0);first|(simp_all[eL];done)|(simp_all[eL];intros;omega)
def kZ:CS:=cz [mQ] wC
def kg:bF aa.prog 64 kZ:=bc Ni
def Sb:bK:=[(132,yq),(133,yr)]
def Io:aR aa.prog Sb:=an ⟨zj,zk,aA⟩
def Hu:DA [mQ]->(DV->Prop)->Prop:=λ⟨⟨f,c,j,p,k,r,rt,e,l,g,s,n,o,h,q,i,m,b,_⟩,_⟩K=>K (.a (sZ.d ⟨⟨f,c,j⟩,p,k,⟨r,rt,e,l,g⟩,⟨s,n,o,h⟩,⟨q,i,m,b⟩⟩))
def RB:fi aa.prog 106 [mQ] Hu:=by apply aV (TR:=eT) aJ au Io (Rn.fM func106) rfl;rintro⟨⟨f,b,h,p,k,c,rt,r,l,d,s,n,o,e,q,g,m,a,_⟩,_⟩K hK⟨⟨_,_,_,_,_,_,_,i,_,_,_,j,_⟩,_⟩;exact gW
def sL:CS:=cz [mQ] Hu
def rW:bF aa.prog 106 sL:=bc RB
def Ua:bK:=[]
def KG:aR aa.prog Ua:=an trivial
def Mi:DA [mQ]->(DV->Prop)->Prop:=λ⟨⟨f,c,j,p,k,r,rt,e,l,g,s,n,o,h,q,i,m,b,_⟩,_⟩K=>K (.a (sZ.d ⟨⟨f,c,j⟩,p,k,⟨r,rt,e,l,g⟩,⟨s,n,o,h⟩,⟨q,i,m,b⟩⟩))
def TE:fi aa.prog 113 [mQ] Mi:=by apply aV (TR:=eT) aJ au KG (Rn.fM func113) rfl;rintro⟨⟨f,b,j,p,l,c,rt,r,n,d,s,k,o,e,q,g,m,a,_⟩,_⟩K hK⟨⟨_,_,_,_,_,_,_,h,_,_,_,i,_⟩,_⟩;have h:=gl r h;have i:=gl k i;exact gW
def rA:CS:=cz [mQ] Mi
def o9:bF aa.prog 113 rA:=bc TE
def NV:bK:=[(210,BJ),(211,BK)]
def FF:aR aa.prog NV:=an ⟨HW,HX,aA⟩
def Sv:Nat->Tr:=λn=>match n with|1=>iu [0,0,1,0,3,0,4,0,2,1,5,1,6,1,7,2] .nil|_=>.nil
def D7:DA [mQ]->(DV->Prop)->Prop:=λ⟨⟨f,e,k,p,n,r,rt,a,h,b,s,i,j,c,o,g,m,d,_⟩,_⟩K=>af (rng .i64 (fV ⟨r,rt,a,h,b⟩+jU ⟨s,i,j,c⟩))<|K (.l (.v (.int .i64 (fV ⟨r,rt,a,h,b⟩+jU ⟨s,i,j,c⟩))))
def No:fi aa.prog 181 [mQ] D7:=by apply aV (TR:=Sv) aJ au FF (Rn.fM func181) rfl;rintro⟨⟨f,e,h,p,i,r,rt,a,j,b,s,k,l,c,n,g,m,d,_⟩,_⟩K⟨v,hK⟩_;exact gW
def v8:CS:=cz [mQ] D7
def xG:bF aa.prog 181 v8:=bc No
def Kp:bK:=[(106,sL)]
def Dg:aR aa.prog Kp:=an ⟨rW,aA⟩
def ub:DA [lN]->(DV->Prop)->Prop:=λ⟨⟨f,c,n,p,o,r,rt,e,t,g,s,u,v,h,w,i,m,b,q,j,k,l,_⟩,_⟩K=>K (.a (fe.d ⟨⟨⟨f,c,n⟩,p,o,⟨r,rt,e,t,g⟩,⟨s,u,v,h⟩,⟨w,i,m,b⟩⟩,q,j,k,l⟩))
def J3:fi aa.prog 81 [lN] ub:=by apply aV (TR:=eT) aJ au Dg (Rn.fM func81) rfl;dsimp only[DA,HL,Sh.T];rintro⟨⟨f,c,k,p,n,d,rt,r,o,e,s,t,u,g,v,h,m,a,q,b,i,j,_⟩,_⟩K hK⟨⟨_,_,_,_,_,_,_,w,_,_,_,x,_,_,_,_,_,_,y,z,_⟩,_⟩;dsimp only[ub]at hK;exact gW
def ma:CS:=cz [lN] ub
def lG:bF aa.prog 81 ma:=bc J3
def Ue:bK:=[(113,rA)]
def KN:aR aa.prog Ue:=an ⟨o9,aA⟩
def Bc:DA [lN]->(DV->Prop)->Prop:=λ⟨⟨f,c,n,p,o,r,rt,e,t,g,s,u,v,h,w,i,m,b,q,j,k,l,_⟩,_⟩K=>K (.a (fe.d ⟨⟨⟨f,c,n⟩,p,o,⟨r,rt,e,t,g⟩,⟨s,u,v,h⟩,⟨w,i,m,b⟩⟩,q,j,k,l⟩))
def DS:fi aa.prog 92 [lN] Bc:=by apply aV (TR:=eT) aJ au KN (Rn.fM func92) rfl;dsimp only[DA,HL,Sh.T];rintro⟨⟨f,c,n,p,t,d,rt,r,u,e,s,v,w,g,x,h,m,a,q,b,i,j,_⟩,_⟩K hK⟨⟨_,_,_,_,_,_,_,y,_,_,_,z,_,_,_,_,_,_,k,l,_⟩,_⟩;dsimp only[Bc]at hK;have k:=gl q k;have l:=gl b l;exact gW
def rB:CS:=cz [lN] Bc
def pd:bF aa.prog 92 rB:=bc DS
def NJ:bK:=[(80,sK)]
def Ft:aR aa.prog NJ:=an ⟨rV,aA⟩
def wx:DA [.inl .bn]->(DV->Prop)->Prop:=λ⟨l,_⟩K=>K (.l (.v (.bool (Lj l))))
def Nc:fi aa.prog 86 [.inl .bn] wx:=by
 apply aV (TR:=eT) aJ au Ft (Rn.fM func86) rfl;rintro⟨l,_⟩K hK _;dsimp only[wx]at hK;repeat'(conv=>whnf);first|apply U0;exact gS|apply gU;exact gA|refine gB ?_ ?_<;>intro b h<;>try exact bG
 all_goals(apply gI hK;repeat' first|exact gR|apply U0);(simp_all[Lj];intros;omega)
def DH:CS:=cz [.inl .bn] wx
def JO:bF aa.prog 86 DH:=bc Nc
def Kn:bK:=[]
def Df:aR aa.prog Kn:=an trivial
def ua:DA [.inl .int]->(DV->Prop)->Prop:=λ⟨n,_⟩K=>K (.l (.v (.bool (Wn n))))
def J2:fi aa.prog 87 [.inl .int] ua:=by
 apply aV (TR:=eT) aJ au Df (Rn.fM func87) rfl;rintro⟨n,_⟩K hK _;dsimp only[ua]at hK;repeat'(conv=>whnf);first|apply U0;exact gS|apply gU;exact gA|refine gB ?_ ?_<;>intro b h<;>try exact bG
 all_goals(apply gI hK;repeat' first|exact gR|apply U0);first|(simp_all[Wn];done)|(simp_all[Wn];omega)
def BA:CS:=cz [.inl .int] ua
def HP:bF aa.prog 87 BA:=bc J2
def H7:bK:=[(51,jI),(86,DH),(87,BA)]
def B1:aR aa.prog H7:=an ⟨iz,JO,HP,aA⟩
def rZ:DA [lN]->(DV->Prop)->Prop:=λ⟨⟨f,b,k,p,n,r,rt,c,o,d,s,t,u,e,w,g,m,a,q,h,i,j,_⟩,_⟩K=>K (.l (.v (.bool (eR ⟨⟨⟨f,b,k⟩,p,n,⟨r,rt,c,o,d⟩,⟨s,t,u,e⟩,⟨w,g,m,a⟩⟩,q,h,i,j⟩))))
def HZ:fi aa.prog 63 [lN] rZ:=by
 apply aV (TR:=eT) aJ au B1 (Rn.fM func63) rfl;dsimp only[DA,HL,Sh.T];rintro⟨⟨f,c,t,p,v,r,rt,d,w,e,s,x,y,g,z,i,m,a,q,b,j,k,_⟩,_⟩K hK⟨⟨_,_,_,_,_,_,_,l,_,_,_,n,_,_,_,_,_,_,A,B,_⟩,_⟩;dsimp only[rZ]at hK;repeat'(conv=>whnf);first|apply U0;exact gS|apply gU;exact gA|refine gB ?_ ?_<;>intro o h<;>try exact bG
 all_goals(apply gI hK;repeat' first|exact gR|apply U0);simp_all[eR]
def kO:CS:=cz [lN] rZ
def kD:bF aa.prog 63 kO:=bc HZ
def Is:bK:=[(64,kZ),(94,vk),(89,jf)]
def Ca:aR aa.prog Is:=an ⟨kg,tR,eZ,aA⟩
def r6:DA [lN]->(DV->Prop)->Prop:=λ⟨⟨f,b,k,p,n,r,rt,c,o,d,s,t,u,e,w,g,m,a,q,h,i,j,_⟩,_⟩K=>K (.l (.v (.bool (eR ⟨⟨⟨f,b,k⟩,p,n,⟨r,rt,c,o,d⟩,⟨s,t,u,e⟩,⟨w,g,m,a⟩⟩,q,h,i,j⟩))))
def H4:fi aa.prog 70 [lN] r6:=by
 apply aV (TR:=eT) aJ au Ca (Rn.fM func70) rfl;dsimp only[DA,HL,Sh.T];rintro⟨⟨f,c,t,p,v,r,rt,d,w,e,s,x,y,g,z,i,m,a,q,b,j,k,_⟩,_⟩K hK⟨⟨_,_,_,_,_,_,_,l,_,_,_,n,_,_,_,_,_,_,A,B,_⟩,_⟩;dsimp only[r6]at hK;repeat'(conv=>whnf);first|apply U0;exact gS|apply gU;exact gA|refine gB ?_ ?_<;>intro o h<;>try exact bG
 all_goals(apply gI hK;repeat' first|exact gR|apply U0);first|(simp_all[eR,Lj,Wn];done)|(simp_all[eR,Lj,Wn];intros;omega)
def nD:CS:=cz [lN] r6
def nN:bF aa.prog 70 nD:=bc H4
end
section
open Go.RowKit
def WA(r:Int)(l:List Int)(b:Int):Int×List Int×Bool:=if jJ r l&&ed b&&decide ((l.length:Int)<r)then(r,l++[b],E)else(0,[],H)
def zaB(J:Int)(v:Y)(l:List Int)(b:Int)(w:V)(O:ov w v l)(t:l.length<=1099511627776):dE aa.prog 239 #[.agg #[.int .i64 J,v],.int .i64 b] w λe Q=>∃r m R a c,WA J l b=(r,m,R)/\e=.returned (.tuple #[.agg #[.int .i64 r,.slice a m.length c],.bool R])/\cj w.heap.size w Q/\iv Q w.heap.size (.slice a m.length c) m:=by obtain⟨a,S,rfl,-⟩:=O.form;have s:=hid O;clear O;go_enter aa.func239,ntmps239;go_wp2_with fail;apply(qD _ _ _ _ (s.out.below (jl _ _ _)) t).mono;rintro e w1⟨rfl,j⟩;have⟨M,I,u,K⟩:=Pa j;have x:=hid (s.out.below K);have M:=hid M;have I:=hid I;have K:=hid K;clear j;cases o:jJ J l with|false=>have⟨L,P⟩:=blk I.out;have z:=(ab.1 I.out).1;go_wp2_with fail;exact dB (v:=.tuple #[.agg #[.int .i64 0,.slice U 0 0],.bool H]) (by simp[results,results239,go_sem,L]) rfl ⟨_,[],_,U,0,by simp[WA,o],rfl,(by repeat(first|(with_reducible omega)|(with_reducible refine dh ?_ (by(simp;done)) _)|exact eh Y3)),iv.nil _ _⟩|true=>
 obtain⟨n,rfl,y,A,B,-⟩:=EH o;go_wp2_with fail;apply(EM b _).mono;rintro e w2⟨rfl,rfl⟩;cases i:ed b with|false=>have⟨L,P⟩:=blk I.out;have z:=(ab.1 I.out).1;go_wp2_with fail;exact dB (v:=.tuple #[.agg #[.int .i64 0,.slice U 0 0],.bool H]) (by simp[results,results239,go_sem,L]) rfl ⟨_,[],_,U,0,by simp[WA,i],rfl,(by repeat(first|(with_reducible omega)|(with_reducible refine dh ?_ (by(simp;done)) _)|exact eh Y3)),iv.nil _ _⟩|true=>
  have⟨F,T⟩:=blk M.out;have W:=(ab.1 M.out).1;go_wp2_with fail;apply(EP n _ l _ x.out y A B).mono;rintro e w2⟨r,rfl,hr,h,d⟩;have HR:=hid h;(have I:=hid (aY d Y0 I.out));have K:=hid (fp K.out d);clear h d F T W M;by_cases k:l.length<n
  .have N:WA n l b=((n:Int),l++[b],E):=by simp_all[WA]
   have G:=hid N;clear N;go_wp2_with fail;apply(zaj r n l b _ HR.out k).mono;rintro e w3⟨rfl,h,p⟩;have HR:=hid h;(have I:=hid (yf p Y8 I.out));have K:=hid (tP K.out p (by have:=K.out.size;omega) Y0);clear h p;go_wp2_with fail;apply(ZT r n (l++[b]) _ HR.out).mono;rintro e w4⟨X,Z,rfl,g,f⟩;have k:=(ab.1 I.out).1;(have I:=hid (aY f Y0 I.out));have K:=hid (fp K.out f);have D:=hid g;clear g f;have⟨L,P⟩:=blk I.out;have z:=(ab.1 I.out).1;go_wp2_with fail;exact dB (by simp[results,results239,go_sem,L]) rfl ⟨_,_,_,X,Z,G.out,rfl,(by repeat(first|(with_reducible exact eh Y3)|(with_reducible refine dh ?_ (by(simp;done)) _)|exact eh Y3)),iv.base (iv.set (iv.set D.out (by simp;omega) _) (by simp;omega) _) Y0⟩
  .have N:WA n l b=(0,[],H):=by simp_all[WA]
   have G:=hid N;clear N;go_wp2_with fail;apply(zkH r n l b _ HR.out Y0).mono;rintro e w3⟨rfl,q,rfl⟩;have⟨L,P⟩:=blk I.out;go_wp2_with fail;exact dB (by simp[results,results239,go_sem,L]) rfl ⟨_,[],_,U,0,G.out,rfl,(by repeat(first|(with_reducible exact eh Y3)|(with_reducible refine dh ?_ (by(simp;done)) _)|(with_reducible refine ry ?_ _)|exact eh Y3)),iv.nil _ _⟩
open Ab
structure zqp where
 bS:Int
 items:List Int
 ok:Bool
def Ek(r:Int)(l:List Int)(b:Int):zqp:=if jJ r l&&ed b&&decide ((l.length:Int)<r)then⟨r,l++[b],E⟩else⟨0,[],H⟩
def zqp.d(t:zqp):DV:=.t [.inr (zoD t.bS t.items),.inl (.v (.bool t.ok))]
def zrS(r:Int)(l:List Int)(b:Int):WA r l b=((Ek r l b).bS,(Ek r l b).items,(Ek r l b).ok):=by grind[WA,Ek]
def zkG(r:Int)(l:List Int)(b:Int):(Ek r l b).items.length<=16:=by
 unfold Ek;split
 .rename_i h;simp[aj,decide_eq_true_eq]at h;have:=ZS h.1.1;grind
 .simp
def To:fi aa.prog 239 [.inr [.int,.bn],.inl .int] (λ⟨⟨r,l,_⟩,b,_⟩K=>K (Ek r l b).d):=by
 rintro⟨⟨r,l,_⟩,b,_⟩K hK w B z t;obtain⟨v,rfl,F,g⟩:∃v,B=#[.agg #[.int .i64 r,v],.int .i64 b]/\ov w v l/\l.length<=1099511627776:=by cases h:B.toList with|nil=>rw[h]at z;cases z|cons a rest=>rw[h]at z;obtain⟨⟨D,rfl,A⟩,z⟩:=z;cases rest with|nil=>cases z|cons y rest=>cases rest with|cons _ _=>cases z.2|nil=>cases u:D.toList with|nil=>rw[u]at A;cases A|cons i rest=>rw[u]at A;cases rest with|nil=>cases A.2|cons v rest=>have⟨j,⟨k,n⟩,o⟩:=A;cases rest with|cons _ _=>cases o|nil=>have p:D=#[.int .i64 r,v]:=bj.1 (by rw[u];have :=j;rw[this]);have q:=z.1;exact⟨v,bj.1 (by rw[h,p,q]),k,n⟩
 apply(zaB r v l b w F g).mono;rintro e J⟨x,m,L,a,c,f,rfl,s,G⟩;rw[zrS]at f;simp[aX]at f;obtain⟨rfl,rfl,rfl⟩:=f;have I:=zkG r l b;refine⟨_,_,rfl,hK,s,(dR a (Ek r l b).items.length c).ownBlock.toList,⟨_,rfl,(dR a (Ek r l b).items.length c).ownBlock.toList,[],(eu _).symm,⟨_,rfl,[],_,rfl,⟨rfl,rfl,rfl⟩,_,[],(eu _).symm,⟨G,?_,rfl⟩,rfl⟩,[],[],rfl,⟨rfl,rfl,rfl⟩,rfl⟩,Y8⟩;show(Ek r l b).items.length<=1099511627776;omega
def Lu:CS:=cz [.inr [.int,.bn],.inl .int] (λ⟨⟨r,l,_⟩,b,_⟩K=>K (Ek r l b).d)
def QU:bF aa.prog 239 Lu:=bc To
structure zh3 where
 s:zw
 ok:Bool
def mL(s:zw)(b:Int):zh3:=if lg s&&ed b&&decide ((s.items.length:Int)<s.bS)then⟨⟨s.bS,s.items++[b],s.shift,s.left⟩,E⟩else⟨zhR,H⟩
def zh3.d(t:zh3):DV:=.t [.inr t.s.d,.inl (.v (.bool t.ok))]
def TX:bK:=[(97,nn),(118,kE),(239,Lu)]
def Kl:aR aa.prog TX:=an ⟨mG,lu,QU,aA⟩
def A4:DA [.inr [.int,.bn,.int,.int],.inl .int]->(DV->Prop)->Prop:=λ⟨⟨r,l,s,f,_⟩,b,_⟩K=>K (mL ⟨r,l,s,f⟩ b).d
def Tu:fi aa.prog 218 [.inr [.int,.bn,.int,.int],.inl .int] A4:=by apply aV (TR:=eT) aJ au Kl (Rn.fM func218) rfl;dsimp only[DA,HL,Sh.T];rintro⟨⟨r,l,s,f,_⟩,b,_⟩K hK⟨⟨_,i,_⟩,_⟩;dsimp only[A4]at hK;cases v:lg ⟨r,l,s,f⟩with|false=>rw[show mL _ b=⟨zhR,H⟩by simp[mL,v]]at hK;exact gW|true=>
 have a:jJ r l=E:=by simp_all[lg,aj]
 by_cases d:ed b=E/\(l.length:Int)<r
 .have e:Ek r l b=⟨r,l++[b],E⟩:=by simp_all[Ek]
  rw[show mL _ b=⟨⟨r,l++[b],s,f⟩,E⟩by simp[mL,v,d.1,d.2]]at hK;repeat'(conv=>whnf);first|apply U0;exact gS|(apply na;focus(simp[eq_self,e];done))|refine gB ?_ ?_<;>intro c h<;>try exact bG
  all_goals(apply gI hK;repeat' first|exact gR|apply U0)
  simp_all
 .have e:Ek r l b=⟨0,[],H⟩:=by simp_all[Ek,if_neg,aj,decide_eq_true_eq]
  rw[show mL _ b=_ by unfold mL;rw[if_neg];simp_all]at hK;repeat'(conv=>whnf);first|apply U0;exact gS|(apply qM;focus(simp[eq_self,e];done))|refine gB ?_ ?_<;>intro c h<;>try exact bG
  all_goals(apply gI hK;repeat' first|exact gR|apply U0)
  all_goals rfl
def Lz:CS:=cz [.inr [.int,.bn,.int,.int],.inl .int] A4
def QX:bF aa.prog 218 Lz:=bc Tu
def T6:bK:=[(91,qG),(89,jf)]
def KB:aR aa.prog T6:=an ⟨qk,eZ,aA⟩
def Yv:Nat->Tr:=λn=>match n with|3=>iu [0,0,1,0,3,0,4,0,6,0,9,0,10,0,11,0,12,0] (.iY 2 1 (.iY 5 1 (iu [7,1,8,1,13,1,14,2,15,2] .nil) 7 1 (iu [5,1,8,1,13,1,14,2,15,2] .nil)) 7 1 (iu [2,1,5,1,8,1,13,1,14,2,15,2] .nil))|_=>.nil
def Ba:DA [.inr [.int,.bn,.int,.int],.inl .int]->(DV->Prop)->Prop:=λ⟨⟨r,l,s,f,_⟩,b,_⟩K=>K (mL ⟨r,l,s,f⟩ b).d
def TB:fi aa.prog 212 [.inr [.int,.bn,.int,.int],.inl .int] Ba:=by apply aV (TR:=Yv) aJ au KB (Rn.fM func212) rfl;dsimp only[DA,HL,Sh.T];rintro⟨⟨r,l,s,f,_⟩,b,_⟩K hK⟨⟨_,g,_⟩,_⟩;dsimp only[Ba]at hK;cases v:lg ⟨r,l,s,f⟩with|false=>rw[show mL ⟨r,l,s,f⟩ b=⟨zhR,H⟩by simp[mL,v]]at hK;exact gWf|true=>
 have c:=(iU v).1;dsimp only at c;by_cases d:ed b=E/\(l.length:Int)<r
 .have a:=Zx d.1;rw[show mL ⟨r,l,s,f⟩ b=⟨⟨r,l++[b],s,f⟩,E⟩by simp[mL,v,d.1,d.2]]at hK;repeat'(conv=>whnf);first|apply U0;exact gS|apply dS.mk;exact wP|apply U1|apply gU;exact gA|refine gB ?_ ?_<;>intro c h<;>try exact bG
  all_goals first |(exfalso;rcases h with h|h<;>first|exact h a.1|exact h a.2)|(exact gF hK)
 .rw[show mL _ b=_ by unfold mL;rw[if_neg];intro h;simp[aj,decide_eq_true_eq]at h;exact d ⟨h.1.2,h.2⟩]at hK;repeat'(conv=>whnf);first|apply U0;exact gS|apply dS.mk;exact wP|refine U1 ?_|apply gU;exact gA|refine gB ?_ ?_<;>intro c h<;>try exact bG
  all_goals first|(exact gF hK;done)|(exfalso;refine d ⟨?_,?_⟩;(focus(have q:(0:Int)<=b/\b<=255:=Y3;simp[ed,q.1,q.2];done));omega)
def LJ:CS:=cz [.inr [.int,.bn,.int,.int],.inl .int] Ba
def Ra:bF aa.prog 212 LJ:=bc TB
structure zfp where
 p:sZ
 ok:Bool
def zfp.d(x:zfp):DV:=.t [.inr x.p.d,.inl (.v (.bool x.ok))]
def ze2{s:zw}(h:lg s=E){b:Int}(c:ed b=E)(r:(s.items.length:Int)<s.bS):lg ⟨s.bS,s.items++[b],s.shift,s.left⟩=E:=by
 have⟨a,d,e⟩:=iU h;have f:jJ s.bS (s.items++[b])=E:=by simp only[jJ,aj,decide_eq_true_eq];grind[iw]
 simp_all[lg,aj]
def ze3{s:zw}{b:Int}(h:¬(ed b=E/\(s.items.length:Int)<s.bS)):mL s b=⟨zhR,H⟩:=by simp_all[mL,if_neg,aj,decide_eq_true_eq]
def NC:bK:=[(51,jI),(106,sL),(218,Lz)]
def Fl:aR aa.prog NC:=an ⟨iz,rW,QX,aA⟩
def D5:DA [mQ,.inl .int,.inl .int]->(DV->Prop)->Prop:=λ⟨⟨f,c,k,p,n,r,rt,e,o,h,s,l,q,i,t,j,m,a,_⟩,g,b,_⟩K=>af (g=0)<|af (eL ⟨⟨f,c,k⟩,p,n,⟨r,rt,e,o,h⟩,⟨s,l,q,i⟩,⟨t,j,m,a⟩⟩=E)<|Br (ed b&&decide ((l.length:Int)<s)) (K (zfp.d ⟨⟨⟨f,c,k⟩,p,n,⟨r,rt,e,o,h⟩,⟨s,l++[b],q,i⟩,⟨t,j,m,a⟩⟩,E⟩)) (K (zfp.d ⟨Ej,H⟩))
def M9:fi aa.prog 198 [mQ,.inl .int,.inl .int] D5:=by
 apply aV (TR:=eT) aJ au Fl (Rn.fM func198) rfl;dsimp only[DA,HL,Sh.T];rintro⟨⟨f,i,w,p,D,j,rt,r,F,k,s,d,v,c,G,l,m,a,_⟩,g,b,_⟩K⟨n,x,I,hF⟩⟨⟨-,-,-,-,-,-,-,J,-,-,-,L,-⟩,-⟩;have x:=x;subst n;have⟨u,z,A,B,o⟩:=du x;dsimp only at u z A B o;by_cases y:ed b=E/\(d.length:Int)<s
 .have e:mL ⟨s,d,v,c⟩ b=⟨⟨s,d++[b],v,c⟩,E⟩:=by simp_all[mL]
  have q:eL ⟨⟨f,i,w⟩,p,D,⟨j,rt,r,F,k⟩,⟨s,d++[b],v,c⟩,⟨G,l,m,a⟩⟩=E:=hU u z A B (ze2 o y.1 y.2);repeat'(conv=>whnf);first|apply U0;exact gS|apply gU;exact gA|(apply na;focus(simp[eq_self,e,q];done))|refine gB ?_ ?_<;>intro t h<;>try exact bG
  all_goals(apply gI (I Y7);repeat' first|exact gR|apply U0)
  all_goals(simp[e];done)
 .have hK:=hF (by simp_all);have e:mL ⟨s,d,v,c⟩ b=_:=ze3 y;repeat'(conv=>whnf);first|apply U0;exact gS|apply gU;exact gA|(apply qM;focus(simp[eq_self,e];done))|refine gB ?_ ?_<;>intro t h<;>try exact bG
  all_goals(apply gI hK;repeat' first|exact gR|apply U0)
  all_goals rfl
def DF:CS:=cz [mQ,.inl .int,.inl .int] D5
def JM:bF aa.prog 198 DF:=bc M9
def NO:bK:=[(64,kZ),(113,rA),(212,LJ)]
def FB:aR aa.prog NO:=an ⟨kg,o9,Ra,aA⟩
def D6:DA [mQ,.inl .int,.inl .int]->(DV->Prop)->Prop:=λ⟨⟨f,c,k,p,n,r,rt,e,o,h,s,l,q,i,t,j,m,a,_⟩,g,b,_⟩K=>af (g=0)<|af (eL ⟨⟨f,c,k⟩,p,n,⟨r,rt,e,o,h⟩,⟨s,l,q,i⟩,⟨t,j,m,a⟩⟩=E)<|Br (ed b&&decide ((l.length:Int)<s)) (K (zfp.d ⟨⟨⟨f,c,k⟩,p,n,⟨r,rt,e,o,h⟩,⟨s,l++[b],q,i⟩,⟨t,j,m,a⟩⟩,E⟩)) (K (zfp.d ⟨Ej,H⟩))
def Nj:fi aa.prog 185 [mQ,.inl .int,.inl .int] D6:=by
 apply aV (TR:=eT) aJ au FB (Rn.fM func185) rfl;dsimp only[DA,HL,Sh.T];rintro⟨⟨f,i,w,p,D,j,rt,r,F,k,s,d,v,c,G,l,m,a,_⟩,g,b,_⟩K⟨n,x,I,hF⟩⟨⟨-,-,-,-,-,-,-,J,-,-,-,L,-⟩,-⟩;have x:=x;subst n;have⟨u,z,A,B,o⟩:=du x;dsimp only at u z A B o;by_cases y:ed b=E/\(d.length:Int)<s
 .have e:mL ⟨s,d,v,c⟩ b=⟨⟨s,d++[b],v,c⟩,E⟩:=by simp_all[mL]
  have q:eL ⟨⟨f,i,w⟩,p,D,⟨j,rt,r,F,k⟩,⟨s,d++[b],v,c⟩,⟨G,l,m,a⟩⟩=E:=hU u z A B (ze2 o y.1 y.2);repeat'(conv=>whnf);first|apply U0;exact gS|apply gU;exact gA|(apply na;focus(simp[eq_self,e,q];done))|refine gB ?_ ?_<;>intro t h<;>try exact bG
  all_goals(apply gI (I Y7);repeat' first|exact gR|apply U0)
  all_goals(simp[e];done)
 .have hK:=hF (by simp_all);have e:mL ⟨s,d,v,c⟩ b=_:=ze3 y;repeat'(conv=>whnf);first|apply U0;exact gS|apply gU;exact gA|(apply qM;focus(simp[eq_self,e];done))|refine gB ?_ ?_<;>intro t h<;>try exact bG
  all_goals(apply gI hK;repeat' first|exact gR|apply U0)
  all_goals rfl
def DJ:CS:=cz [mQ,.inl .int,.inl .int] D6
def JQ:bF aa.prog 185 DJ:=bc Nj
end
end Go.Proofs.YtelohkknmgaacaaGreatDoor
