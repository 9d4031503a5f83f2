/-
  The lone walks (part 11). No condition.
-/
import Derived.Test.YtdpfknhenjngcaaGreatDoorZ10
import Derived.Deep.Cut
import Derived.Deep.CutRange
import Derived.Test.YtdpfknhenjngcaaGreatDoorZ9
set_option linter.unusedSimpArgs false
set_option linter.unusedVariables false
set_option linter.unusedSectionVars false
set_option maxRecDepth 100000
set_option maxHeartbeats 2000000
open Array renaming getElem?_eq_some_iff→ah,toList_inj→bk,getElem?_setIfInBounds→bC,size_setIfInBounds→wX
open BitVec renaming ofInt→aZ
open Bool renaming and_eq_true→aE
open Classical renaming byCases→fw
open Go renaming Value→aj,World→ai,TypeId→au,Calls→fV,bodyPost_ret→dW
open Go.Calls renaming mono→cR
open Go.Ending renaming returned→oP
open Go.IntKind renaming i64→aL
open Go.Proofs.Tryz renaming func244→zp,results218→sJ
open Go.RowKit renaming Below→cE
open Go.RowKit.Below renaming refl→bO,alloc→eL,setCell→dB,drew→fZ
open Go.RowKit.Hid renaming out→dU
open Go.Value renaming slice→dj
open Go.Value.slice renaming injEq→b9
open Int renaming eq_ofNat_of_zero_le→gn,emod_nonneg→jq,emod_lt_of_pos→o9,toNat_natCast→je,toNat→dT
open List renaming getElem?_eq_some_iff→aO,getElem?_eq_getElem→aW,getElem?_cons_zero→bE,eq_nil_of_length_eq_zero→cY,nodup_append→jf,take_add_one→dO,take_of_length_le→bq,length_append→dp,take_length→xR,take_succ_eq_append_getElem→kS,getD_eq_getElem?_getD→dq,nodup_nil→By,append_nil→eO,length_cons→bP,getD→my,getElem?_set_ne→cd
open Nat renaming add_zero→ey,add_assoc→gT,zero_le→bw,le_refl→aA,mod_eq_of_lt→xT,mod_lt→nD,mul_le_mul_left→og,le_trans→bD,add_lt_add_right→Ca
open Option.some renaming injEq→aF
open Bool renaming true→ae,false→aa
open Option renaming some→ab,none→ak
namespace Go.Proofs.YtdpfknhenjngcaaGreatDoor
section
open Go.RowKit
open Ab
def vu(n:Option Nat):aj:=.pointer (n.map λ n=>⟨n,0,ak⟩)
def nj(w:ai):List Nat->List (Int×Int)->Prop
 |[],[]=>True
 |n::ns,g::gs=>w.heap[n]?=ab (.cells #[.int .i64 g.1,.int .i64 g.2,vu ns.head?] 258 (0,0))/\nj w ns gs
 |_,_=>False
theorem nj.len{w:ai}:∀{ns:List Nat} {l:List (Int×Int)},nj w ns l->ns.length=l.length
 |[],[],_=>rfl
 |_::ns,_::l,h=>by simp[nj.len h.2]
 |[],_::_,h=>h.elim
 |_::_,[],h=>h.elim
theorem nj.keep{w w':ai}:∀{ns:List Nat} {l:List (Int×Int)},nj w ns l->(∀n∈ns,w'.heap[n]?=w.heap[n]?)->nj w' ns l
 |[],[],_,_=>trivial
 |n::ns,_::l,h,k=>⟨(k n (by simp)).trans h.1,nj.keep h.2 λ m hm=>k m (by simp[hm])⟩
 |[],_::_,h,_=>h.elim
 |_::_,[],h,_=>h.elim
theorem nj.lt{w:ai}:∀{ns:List Nat} {l:List (Int×Int)},nj w ns l->∀n∈ns,n<w.heap.size
 |[],[],_,_,hn=>by cases hn
 |n::ns,_::l,h,m,hm=>by
  rcases List.mem_cons.1 hm with rfl|hm
  ·exact(ah.1 h.1).1
  ·exact nj.lt h.2 m hm
 |[],_::_,h,_,_=>h.elim
 |_::_,[],h,_,_=>h.elim
theorem nj.last{w:ai}{m:Nat}:∀{ns:List Nat} {l:List (Int×Int)},nj w (ns++[m]) l->∃a b,w.heap[m]?=ab (.cells #[.int .i64 a,.int .i64 b,.pointer ak] 258 (0,0))
 |[],[],h=>h.elim
 |[],g::l,h=>⟨g.1,g.2,h.1⟩
 |_::ns,[],h=>h.elim
 |_::ns,_::l,h=>nj.last (ns:=ns) h.2
theorem nj.snoc{w w':ai}{m n:Nat}{g:Int×Int}(hn:w'.heap[n]?=ab (.cells #[.int .i64 g.1,.int .i64 g.2,.pointer ak] 258 (0,0)))
  (hm:∀a b,w.heap[m]?=ab (.cells #[.int .i64 a,.int .i64 b,.pointer ak] 258 (0,0))->w'.heap[m]?=ab (.cells #[.int .i64 a,.int .i64 b,.pointer (ab ⟨n,0,ak⟩)] 258 (0,0))):
  ∀{ns:List Nat} {l:List (Int×Int)},nj w (ns++[m]) l->(∀b∈ns,w'.heap[b]?=w.heap[b]?)->nj w' (ns++[m,n]) (l++[g])
 |[],[],h,_=>h.elim
 |[],g0::[],h,_=>⟨hm _ _ h.1,hn,trivial⟩
 |[],g0::_::_,h,_=>h.2.elim
 |_::ns,[],h,_=>h.elim
 |b::ns,g0::l,h,k=>by
  refine⟨?_,nj.snoc hn hm (ns:=ns) h.2 λ c hc=>k c (by simp[hc])⟩
  have e:(ns.append [m,n]).head?=(ns++[m]).head?:=by cases ns<;>rfl
  rw[e,k b (by simp)]
  exact h.1
def GL(w:ai)(B r:Nat)(l:List (Int×Int)):Prop:=∃ns:List Nat,w.heap[r]?=ab (.cells #[vu ns.head?,vu ns.getLast?,.int .i64 l.length] 193 (0,0))/\nj w ns l/\ns.Nodup/\(∀n∈ns,B<=n/\n≠r)/\B<=r
theorem GL.keep{w w':ai}{B r:Nat}{l:List (Int×Int)}(h:GL w B r l)(k:∀b,B<=b->b<w.heap.size->w'.heap[b]?=w.heap[b]?):GL w' B r l:=by
 obtain⟨ns,h1,h2,h3,h4,h5⟩:=h
 exact⟨ns,(k r h5 (ah.1 h1).1).trans h1,h2.keep λ n hn=>k n (h4 n hn).1 (h2.lt n hn),h3,h4,h5⟩
variable{w:ai}{r:Nat}{l:List (Int×Int)}
theorem GL.lt{B:Nat}(h:GL w B r l):B<=r/\r<w.heap.size:=by
 obtain⟨ns,h1,h2,h3,h4,h5⟩:=h
 exact⟨h5,(ah.1 h1).1⟩
variable{w':ai}
theorem GL.below{B:Nat}(h:GL w B r l)(hb:cE w.heap.size w w'):GL w' B r l:=h.keep λ b _ cj=>hb.block b cj
theorem GL.mono{B B':Nat}(h:GL w B r l)(hb:B'<=B):GL w B' r l:=by
 obtain⟨ns,h1,h2,h3,h4,h5⟩:=h
 exact⟨ns,h1,h2,h3,λ n hn=>⟨by have:=(h4 n hn).1;omega,(h4 n hn).2⟩,by omega⟩
variable{cx:Cx}{β:List En}{k:Nat}{cs:List LV}
theorem Pk{hp:Hp}(hI:Ab.Inv cx β hp w){T:au}(h:hp[k]?=ab (.b cs T)):
  ∃n us,β[k]?=ab (.b n)/\(cx.w0.heap.size<=n\/n∈cx.M)/\w.heap[n]?=ab (.cells us T (0,0))/\jP cx β cs us.toList:=by
 have hk:=(aO.1 h).1
 have he:β[k]?=ab (β[k]'(by rw[hI.len];exact hk)):=aW _
 have ho:=hI.OZ k _ _ h he
 generalize β[k]'(by rw[hI.len];exact hk)=e at he ho
 cases e with
 |b n=>obtain⟨h1,us,h2,h3⟩:=ho;exact⟨n,us,he,h1,h2,h3⟩
 |r v eC=>exact ho.elim
 |x=>exact ho.elim
theorem za6{hp:Hp}(hI:Ab.Inv cx β hp w){i n m:Nat}{ds:List LV}{T U:au}(hi:hp[i]?=ab (.b cs T))(hk:hp[k]?=ab (.b ds U))(hn:β[i]?=ab (.b n))(hm:β[k]?=ab (.b m))(fh:i≠k):n≠m:=by
 rintro rfl
 exact fh (hI.dis i k n (by rw[ownB_of hi hn];rfl) (by rw[ownB_of hk hm];rfl))
variable{us:Array aj}
theorem lc3{a b c:LV}(h:jP cx β [a,b,c] us.toList):∃x y z,us=#[x,y,z]/\LC cx β a x/\LC cx β b y/\LC cx β c z:=by
 cases hu:us.toList with
 |nil=>rw[hu] at h;exact h.elim
 |cons x r=>
  rw[hu] at h
  match r,h with
  |[y,z],⟨h1,h2,h3,_⟩=>exact⟨x,y,z,bk.1 hu,h1,h2,h3⟩
variable{v:aj}
theorem lcp{off n:Nat}(h:LC cx β (.p k off) v)(hn:β[k]?=ab (.b n)):v=.pointer (ab ⟨n,off,ak⟩):=by
 obtain⟨_,m,hm,e⟩:=h
 rw[hn] at hm
 obtain rfl:n=m:=by simpa using hm
 exact e
theorem UA{x:aj}(h:LC cx β (.v x) v):v=x:=h.2
theorem inv1{T:au}(hb:w.heap[r]?=ab (.cells us T (0,0)))(hc:jP ⟨w,[r]⟩ [.b r] cs us.toList):Ab.Inv ⟨w,[r]⟩ [.b r] [.b cs T] w:=by
 refine⟨wa.refl _ _,rfl,λ k t e h1 h2=>?_,λ i k b h1 h2=>?_⟩
 ·cases k with
  |succ k=>simp at h1
  |zero=>
   simp only[bE,aF] at h1 h2
   subst h1 h2
   exact⟨.inr (by simp),_,hb,hc⟩
 ·obtain⟨_,_,e1,_,_⟩:=mB h1
  obtain⟨_,_,e2,_,_⟩:=mB h2
  have:=(aO.1 e1).1
  have:=(aO.1 e2).1
  simp at *
  omega
theorem inv2{m:Nat}{ds:List LV}{vs:Array aj}{T U:au}(fh:r≠m)(hb:w.heap[r]?=ab (.cells us T (0,0)))(hd:w.heap[m]?=ab (.cells vs U (0,0)))(hc:jP ⟨w,[r,m]⟩ [.b r,.b m] cs us.toList)(he:jP ⟨w,[r,m]⟩ [.b r,.b m] ds vs.toList):
  Ab.Inv ⟨w,[r,m]⟩ [.b r,.b m] [.b cs T,.b ds U] w:=by
 refine⟨wa.refl _ _,rfl,λ k t e h1 h2=>?_,λ i k b h1 h2=>?_⟩
 ·match k with
  |0=>
   simp only[bE,aF] at h1 h2
   subst h1 h2
   exact⟨.inr (by simp),_,hb,hc⟩
  |1=>
   simp only[List.getElem?_cons_succ,bE,aF] at h1 h2
   subst h1 h2
   exact⟨.inr (by simp),_,hd,he⟩
  |k+2=>simp at h1
 ·have key:∀i b,ownB [.b cs T,.b ds U] [.b r,.b m] i=ab b->(i=0/\b=r)\/(i=1/\b=m):=by
   intro i b h
   match i with
   |0=>exact .inl ⟨rfl,by simpa [ownB,ow,eq_comm] using h⟩
   |1=>exact .inr ⟨rfl,by simpa [ownB,ow,eq_comm] using h⟩
   |i+2=>simp[ownB] at h
  rcases key i b h1 with⟨rfl,rfl⟩|⟨rfl,rfl⟩<;>rcases key k _ h2 with⟨rfl,h⟩|⟨rfl,h⟩
  ·rfl
  ·exact absurd h fh
  ·exact absurd h.symm fh
  ·rfl
def IY:Env:=[]
theorem sA:bg al.prog IY:=aC trivial
theorem ziz(r:Nat)(g:Int×Int)(w:ai)(hb:w.heap[r]?=ab (.cells #[.pointer ak,.pointer ak,.int .i64 0] 193 (0,0))):
  fV al.prog 150 #[.pointer (ab ⟨r,0,ak⟩),.agg #[.int .i64 g.1,.int .i64 g.2]] w λ e w'=>e=.returned (.tuple #[])/\∃n,w.heap.size<=n/\w'.heap[r]?=ab (.cells #[.pointer (ab ⟨n,0,ak⟩),.pointer (ab ⟨n,0,ak⟩),.int .i64 1] 193 (0,0))/\
   w'.heap[n]?=ab (.cells #[.int .i64 g.1,.int .i64 g.2,.pointer ak] 258 (0,0))/\wa (λ b=>b=r) w w':=by
 have cj:=(ah.1 hb).1
 have hI:=inv1 (cs:=[.v (.pointer ak),.v (.pointer ak),.v (.int .i64 0)]) hb ⟨⟨rfl,rfl⟩,⟨rfl,rfl⟩,⟨rfl,rfl⟩,trivial⟩
 refine cR (zFQ (W0:=[]) (TR:=ja) (K:=λ x hp=>x=.t []/\∃T1,hp=[.b [.p 2 0,.p 2 0,.v (.int .i64 1)] 193,.b [.v (.int .i64 g.1),.v (.int .i64 g.2)] T1,.b [.v (.int .i64 g.1),.v (.int .i64 g.2),.v (.pointer ak)] 258]) aS aH ⟨sA,.inl rfl⟩ (Rn.fM Tryz.func150) hI (xs:=[.l (.p 0 0),.a [.v (.int .i64 g.1),.v (.int .i64 g.2)]]) ⟨⟨rfl,r,rfl,rfl⟩,⟨_,rfl,⟨rfl,rfl⟩,⟨rfl,rfl⟩,trivial⟩,trivial⟩ gK ?_) ?_
 ·repeat' (conv=>whnf);first|refine az.mk ?_ ?_;exact gS|refine Fork.mk ?_ ?_;exact ER|refine End.mk ?_|apply gU;exact gA|refine gB ?_ ?_<;>intro hb h<;>try exact c8|refine λ(y:Int) (h0:0<=y) h1=>?_
  all_goals exact⟨rfl,_,rfl⟩
 ·rintro e w' ⟨u,x,bG,cT,rfl,⟨rfl,T1,rfl⟩,h7,nX,hL⟩
  obtain⟨n,us,g1,g2,g3,g4⟩:=Pk nX (k:=2) rfl
  obtain⟨r',us0,f1,f2,f3,f4⟩:=Pk nX (k:=0) rfl
  have e0:cT[0]?=ab (.b r):=hL.ext 0 (.b r) (by simp) rfl
  rw[e0] at f1
  obtain rfl:r=r':=by simpa using f1
  have fh:=za6 nX (i:=2) (k:=0) rfl rfl g1 e0 (by omega)
  obtain⟨x,y,z,rfl,x1,x2,x3⟩:=lc3 f4
  obtain⟨x',y',z',rfl,y1,y2,y3⟩:=lc3 g4
  rw[lcp x1 g1,lcp x2 g1,UA x3] at f3
  rw[UA y1,UA y2,UA y3] at g3
  obtain⟨vs,rfl,yB⟩:=h7
  have:vs=#[]:=by cases hv:vs.toList with|nil=>exact bk.1 hv|cons _ _=>rw[hv] at yB;exact yB.elim
  subst this
  refine⟨rfl,n,?_,f3,g3,?_⟩
  ·rcases g2 with g2|g2
   ·exact g2
   ·simp at g2;omega
  ·exact nX.kp.mono λ b _ hb=>by simpa using hb
theorem zeH(r m:Nat)(p0:aj)(c:Nat)(a b:Int)(g:Int×Int)(w:ai)(fh:r≠m)(hp0:p0.oneCell'=ae)(hc:c<=1099511627776)(hb:w.heap[r]?=ab (.cells #[p0,.pointer (ab ⟨m,0,ak⟩),.int .i64 c] 193 (0,0)))(hm:w.heap[m]?=ab (.cells #[.int .i64 a,.int .i64 b,.pointer ak] 258 (0,0))):
  fV al.prog 150 #[.pointer (ab ⟨r,0,ak⟩),.agg #[.int .i64 g.1,.int .i64 g.2]] w λ e w'=>e=.returned (.tuple #[])/\∃n,w.heap.size<=n/\w'.heap[r]?=ab (.cells #[p0,.pointer (ab ⟨n,0,ak⟩),.int .i64 ((c:Int)+1)] 193 (0,0))/\
   w'.heap[m]?=ab (.cells #[.int .i64 a,.int .i64 b,.pointer (ab ⟨n,0,ak⟩)] 258 (0,0))/\w'.heap[n]?=ab (.cells #[.int .i64 g.1,.int .i64 g.2,.pointer ak] 258 (0,0))/\wa (λ b=>b=r\/b=m) w w':=by
 have hlr:=(ah.1 hb).1
 have hlm:=(ah.1 hm).1
 have hI:=inv2 (cs:=[.v p0,.p 1 0,.v (.int .i64 c)]) (ds:=[.v (.int .i64 a),.v (.int .i64 b),.v (.pointer ak)]) fh hb hm ⟨⟨hp0,rfl⟩,⟨rfl,m,rfl,rfl⟩,⟨rfl,rfl⟩,trivial⟩ ⟨⟨rfl,rfl⟩,⟨rfl,rfl⟩,⟨rfl,rfl⟩,trivial⟩
 refine cR (zFQ (W0:=[]) (TR:=ja) (K:=λ x hp=>x=.t []/\∃T1,hp=[.b [.v p0,.p 3 0,.v (.int .i64 ((c:Int)+1))] 193,.b [.v (.int .i64 a),.v (.int .i64 b),.p 3 0] 258,.b [.v (.int .i64 g.1),.v (.int .i64 g.2)] T1,.b [.v (.int .i64 g.1),.v (.int .i64 g.2),.v (.pointer ak)] 258]) aS aH ⟨sA,.inl rfl⟩ (Rn.fM Tryz.func150) hI (xs:=[.l (.p 0 0),.a [.v (.int .i64 g.1),.v (.int .i64 g.2)]]) ⟨⟨rfl,r,rfl,rfl⟩,⟨_,rfl,⟨rfl,rfl⟩,⟨rfl,rfl⟩,trivial⟩,trivial⟩ gK ?_) ?_
 ·repeat' (conv=>whnf);first|refine az.mk ?_ ?_;exact gS|refine Fork.mk ?_ ?_;exact ER|refine End.mk ?_|apply gU;exact gA|refine gB ?_ ?_<;>intro hb h<;>try exact c8|refine λ(y:Int) (h0:0<=y) h1=>?_
  all_goals exact⟨rfl,_,rfl⟩
 ·rintro e w' ⟨u,x,bG,cT,rfl,⟨rfl,T1,rfl⟩,h7,nX,hL⟩
  obtain⟨n,us,g1,g2,g3,g4⟩:=Pk nX (k:=3) rfl
  obtain⟨r',us0,f1,f2,f3,f4⟩:=Pk nX (k:=0) rfl
  obtain⟨m',us1,k1,k2,k3,k4⟩:=Pk nX (k:=1) rfl
  have e0:cT[0]?=ab (.b r):=hL.ext 0 (.b r) (by simp) rfl
  have e1:cT[1]?=ab (.b m):=hL.ext 1 (.b m) (by simp) rfl
  rw[e0] at f1
  obtain rfl:r=r':=by simpa using f1
  rw[e1] at k1
  obtain rfl:m=m':=by simpa using k1
  have zD0:=za6 nX (i:=3) (k:=0) rfl rfl g1 e0 (by omega)
  have zD1:=za6 nX (i:=3) (k:=1) rfl rfl g1 e1 (by omega)
  obtain⟨x,y,z,rfl,x1,x2,x3⟩:=lc3 f4
  obtain⟨x',y',z',rfl,y1,y2,y3⟩:=lc3 g4
  obtain⟨x'',y'',z'',rfl,z1,z2,z3⟩:=lc3 k4
  rw[UA x1,lcp x2 g1,UA x3] at f3
  rw[UA y1,UA y2,UA y3] at g3
  rw[UA z1,UA z2,lcp z3 g1] at k3
  obtain⟨vs,rfl,yB⟩:=h7
  have:vs=#[]:=by cases hv:vs.toList with|nil=>exact bk.1 hv|cons _ _=>rw[hv] at yB;exact yB.elim
  subst this
  refine⟨rfl,n,?_,f3,k3,g3,?_⟩
  ·rcases g2 with g2|g2
   ·exact g2
   ·simp at g2;omega
  ·exact nX.kp.mono λ b _ hb=>by simpa using hb
theorem lc2{a b:LV}(h:jP cx β [a,b] us.toList):∃x y,us=#[x,y]/\LC cx β a x/\LC cx β b y:=by
 cases hu:us.toList with
 |nil=>rw[hu] at h;exact h.elim
 |cons x r=>
  rw[hu] at h
  match r,h with
  |[y],⟨h1,h2,_⟩=>exact⟨x,y,bk.1 hu,h1,h2⟩
theorem zhx{a b:Int}{t:Bool}{u:aj}(h:AC cx β (.t [.inr [.v (.int .i64 a),.v (.int .i64 b)],.inl (.v (.bool t))]) u):u=.tuple #[.agg #[.int .i64 a,.int .i64 b],.bool t]:=by
 obtain⟨vs,rfl,h⟩:=h
 cases hv:vs.toList with
 |nil=>rw[hv] at h;exact h.elim
 |cons x r=>
  rw[hv] at h
  match r,h with
  |[y],⟨⟨us,e,h1⟩,h2,_⟩=>
   obtain⟨p,q,rfl,h3,h4⟩:=lc2 h1
   rw[UA h3,UA h4] at e
   have hy:y=.bool t:=UA h2
   rw[show vs=#[x,y] from bk.1 hv,e,hy]
def FV:Env:=[]
theorem mQ:bg al.prog FV:=aC trivial
theorem zbF(r:Nat)(w:ai)(hb:w.heap[r]?=ab (.cells #[.pointer ak,.pointer ak,.int .i64 0] 193 (0,0))):
  fV al.prog 244 #[.pointer (ab ⟨r,0,ak⟩)] w λ e w'=>e=.returned (.tuple #[.agg #[.int .i64 0,.int .i64 0],.bool aa])/\wa (λ b=>b=r) w w':=by
 have hI:=inv1 (cs:=[.v (.pointer ak),.v (.pointer ak),.v (.int .i64 0)]) hb ⟨⟨rfl,rfl⟩,⟨rfl,rfl⟩,⟨rfl,rfl⟩,trivial⟩
 refine cR (zFQ (W0:=[]) (TR:=ja) (K:=λ x hp=>x=.t [.inr [.v (.int .i64 0),.v (.int .i64 0)],.inl (.v (.bool aa))]) aS aH ⟨mQ,.inl rfl⟩ (Rn.fM zp) hI (xs:=[.l (.p 0 0)]) ⟨⟨rfl,r,rfl,rfl⟩,trivial⟩ gK ?_) ?_
 ·repeat' (conv=>whnf);first|refine az.mk ?_ ?_;exact gS|refine Fork.mk ?_ ?_;exact ER|refine End.mk ?_|apply gU;exact gA|refine gB ?_ ?_<;>intro hb h<;>try exact c8|refine λ(y:Int) (h0:0<=y) h1=>?_
  all_goals exact rfl
 ·rintro e w' ⟨u,x,bG,cT,rfl,rfl,h7,nX,hL⟩
  exact⟨by rw[zhx h7],nX.kp.mono λ b _ hb=>by simpa using hb⟩
theorem zeJ(r m:Nat)(c:Nat)(a b:Int)(w:ai)(fh:r≠m)(hc:c<=1099511627776)(hb:w.heap[r]?=ab (.cells #[.pointer (ab ⟨m,0,ak⟩),.pointer (ab ⟨m,0,ak⟩),.int .i64 ((c:Int)+1)] 193 (0,0)))(hm:w.heap[m]?=ab (.cells #[.int .i64 a,.int .i64 b,.pointer ak] 258 (0,0))):
  fV al.prog 244 #[.pointer (ab ⟨r,0,ak⟩)] w λ e w'=>e=.returned (.tuple #[.agg #[.int .i64 a,.int .i64 b],.bool ae])/\w'.heap[r]?=ab (.cells #[.pointer ak,.pointer ak,.int .i64 ((c:Int)+1-1)] 193 (0,0))/\(∀q,q<w.heap.size->q≠r->q≠m->w'.heap[q]?=w.heap[q]?)/\wa (λ b=>b=r\/b=m) w w':=by
 have hI:=inv2 (cs:=[.p 1 0,.p 1 0,.v (.int .i64 ((c:Int)+1))]) (ds:=[.v (.int .i64 a),.v (.int .i64 b),.v (.pointer ak)]) fh hb hm ⟨⟨rfl,m,rfl,rfl⟩,⟨rfl,m,rfl,rfl⟩,⟨rfl,rfl⟩,trivial⟩ ⟨⟨rfl,rfl⟩,⟨rfl,rfl⟩,⟨rfl,rfl⟩,trivial⟩
 refine cR (zFQ (W0:=[]) (TR:=ja) (K:=λ x hp=>x=.t [.inr [.v (.int .i64 a),.v (.int .i64 b)],.inl (.v (.bool ae))]/\hp[0]?=ab (.b [.v (.pointer ak),.v (.pointer ak),.v (.int .i64 ((c:Int)+1-1))] 193)) aS aH ⟨mQ,.inl rfl⟩ (Rn.fM zp) hI (xs:=[.l (.p 0 0)]) ⟨⟨rfl,r,rfl,rfl⟩,trivial⟩ gK ?_) ?_
 ·repeat' (conv=>whnf);first|refine az.mk ?_ ?_;exact gS|refine Fork.mk ?_ ?_;exact ER|refine End.mk ?_|apply gU;exact gA|refine gB ?_ ?_<;>intro hb h<;>try exact c8|refine λ(y:Int) (h0:0<=y) h1=>?_
  all_goals exact⟨rfl,rfl⟩
 ·rintro e w' ⟨u,x,bG,cT,rfl,⟨rfl,h0⟩,h7,nX,hL⟩
  obtain⟨r',us0,f1,f2,f3,f4⟩:=Pk nX (k:=0) h0
  have e0:cT[0]?=ab (.b r):=hL.ext 0 (.b r) (by simp) rfl
  rw[e0] at f1
  obtain rfl:r=r':=by simpa using f1
  obtain⟨x,y,z,rfl,x1,x2,x3⟩:=lc3 f4
  rw[UA x1,UA x2,UA x3] at f3
  exact⟨by rw[zhx h7],f3,λ q hq h1 h2=>nX.kp.block q hq (by simp[h1,h2]),nX.kp.mono λ b _ hb=>by simpa using hb⟩
theorem zbE(r m n2:Nat)(last:aj)(c:Nat)(a b:Int)(w:ai)(fh:r≠m)(zhc:last.oneCell'=ae)(hc:c<=1099511627776)(hb:w.heap[r]?=ab (.cells #[.pointer (ab ⟨m,0,ak⟩),last,.int .i64 ((c:Int)+1)] 193 (0,0)))(hm:w.heap[m]?=ab (.cells #[.int .i64 a,.int .i64 b,.pointer (ab ⟨n2,0,ak⟩)] 258 (0,0))):
  fV al.prog 244 #[.pointer (ab ⟨r,0,ak⟩)] w λ e w'=>e=.returned (.tuple #[.agg #[.int .i64 a,.int .i64 b],.bool ae])/\w'.heap[r]?=ab (.cells #[.pointer (ab ⟨n2,0,ak⟩),last,.int .i64 ((c:Int)+1-1)] 193 (0,0))/\(∀q,q<w.heap.size->q≠r->q≠m->w'.heap[q]?=w.heap[q]?)/\wa (λ b=>b=r\/b=m) w w':=by
 have hI:=inv2 (cs:=[.p 1 0,.v last,.v (.int .i64 ((c:Int)+1))]) (ds:=[.v (.int .i64 a),.v (.int .i64 b),.v (.pointer (ab ⟨n2,0,ak⟩))]) fh hb hm ⟨⟨rfl,m,rfl,rfl⟩,⟨zhc,rfl⟩,⟨rfl,rfl⟩,trivial⟩ ⟨⟨rfl,rfl⟩,⟨rfl,rfl⟩,⟨rfl,rfl⟩,trivial⟩
 refine cR (zFQ (W0:=[]) (TR:=ja) (K:=λ x hp=>x=.t [.inr [.v (.int .i64 a),.v (.int .i64 b)],.inl (.v (.bool ae))]/\hp[0]?=ab (.b [.v (.pointer (ab ⟨n2,0,ak⟩)),.v last,.v (.int .i64 ((c:Int)+1-1))] 193)) aS aH ⟨mQ,.inl rfl⟩ (Rn.fM zp) hI (xs:=[.l (.p 0 0)]) ⟨⟨rfl,r,rfl,rfl⟩,trivial⟩ gK ?_) ?_
 ·repeat' (conv=>whnf);first|refine az.mk ?_ ?_;exact gS|refine Fork.mk ?_ ?_;exact ER|refine End.mk ?_|apply gU;exact gA|refine gB ?_ ?_<;>intro hb h<;>try exact c8|refine λ(y:Int) (h0:0<=y) h1=>?_
  all_goals exact⟨rfl,rfl⟩
 ·rintro e w' ⟨u,x,bG,cT,rfl,⟨rfl,h0⟩,h7,nX,hL⟩
  obtain⟨r',us0,f1,f2,f3,f4⟩:=Pk nX (k:=0) h0
  have e0:cT[0]?=ab (.b r):=hL.ext 0 (.b r) (by simp) rfl
  rw[e0] at f1
  obtain rfl:r=r':=by simpa using f1
  obtain⟨x,y,z,rfl,x1,x2,x3⟩:=lc3 f4
  rw[UA x1,UA x2,UA x3] at f3
  exact⟨by rw[zhx h7],f3,λ q hq h1 h2=>nX.kp.block q hq (by simp[h1,h2]),nX.kp.mono λ b _ hb=>by simpa using hb⟩
theorem xD{B:Nat}{S:Nat->Prop}(h:wa S w w')(hB:B<=w.heap.size)(hS:∀b,S b->B<=b):cE B w w':=
 ⟨h.os,h.tape,h.output,h.size,λ k hk=>h.block k (by omega) λ e=>by have:=hS k e;omega⟩
theorem Zi(r B:Nat)(l:List (Int×Int))(g:Int×Int)(w:ai)(h:GL w B r l)(hB:B<=w.heap.size)(hl:l.length<=1099511627776):
  fV al.prog 150 #[.pointer (ab ⟨r,0,ak⟩),.agg #[.int .i64 g.1,.int .i64 g.2]] w λ e w'=>e=.returned (.tuple #[])/\GL w' B r (l++[g])/\cE B w w':=by
 obtain⟨ns,hb,hc,hd,hn,hr⟩:=h
 have Ya:=(ah.1 hb).1
 rcases List.eq_nil_or_concat ns with rfl|⟨is,m,e⟩
 ·have:l=[]:=by have:=hc.len;exact cY this.symm
  subst this
  refine cR (ziz r g w hb) ?_
  rintro e w' ⟨rfl,n,h1,h2,h3,h4⟩
  exact⟨rfl,⟨[n],by simpa [vu] using h2,⟨by simpa [vu] using h3,trivial⟩,by simp,by simp;omega,hr⟩,xD h4 hB (by rintro b rfl;exact hr)⟩
 ·rw[List.concat_eq_append] at e
  subst e
  obtain⟨a,b,hm⟩:=hc.last
  have hmr:m≠r:=(hn m (by simp)).2
  have hmB:B<=m:=(hn m (by simp)).1
  have zhc:(is++[m]).getLast?=ab m:=by simp
  rw[zhc] at hb
  have cj:=hc.lt
  refine cR (zeH r m _ l.length a b g w (dr hmr) (by unfold vu;cases (is++[m]).head?<;>rfl) hl hb hm) ?_
  rintro e w' ⟨rfl,n,h1,h2,h3,h4,h5⟩
  rw[jf] at hd
  refine⟨rfl,⟨is++[m,n],?_,nj.snoc h4 (λ a' b' hab=>?_) hc (λ b hb=>?_),?_,?_,hr⟩,xD h5 hB (by rintro b (rfl|rfl)<;>assumption)⟩
  ·have e1:(is++[m,n]).head?=(is++[m]).head?:=by cases is<;>rfl
   have e2:(is++[m,n]).getLast?=ab n:=by simp
   rw[e1,e2]
   simpa [vu] using h2
  ·rw[hm] at hab
   simp only[aF,Obj.cells.injEq,and_true] at hab
   have:=congrArg Array.toList hab
   simp only[List.cons.injEq,Value.int.injEq,true_and,and_true] at this
   rw[<-this.1,<-this.2]
   exact h3
  ·have h6:b≠m:=hd.2.2 b hb m (by simp)
   exact h5.block b (cj b (by simp[hb])) (by rintro (e|e);exact(hn b (by simp[hb])).2 e;exact h6 e)
  ·rw[jf]
   refine⟨hd.1,?_,?_⟩
   ·have:=cj m (by simp)
    simp;omega
   ·intro x hx y hy
    have h6:x≠m:=hd.2.2 x hx m (by simp)
    have:=cj x (by simp[hx])
    simp at hy
    rcases hy with rfl|rfl
    ·exact h6
    ·omega
  ·intro x hx
   simp at hx
   rcases hx with hx|rfl|rfl
   ·exact hn x (by simp[hx])
   ·exact⟨hmB,hmr⟩
   ·exact⟨by omega,by omega⟩
theorem zeI(r B:Nat)(w:ai)(h:GL w B r [])(hB:B<=w.heap.size):
  fV al.prog 244 #[.pointer (ab ⟨r,0,ak⟩)] w λ e w'=>e=.returned (.tuple #[.agg #[.int .i64 0,.int .i64 0],.bool aa])/\cE B w w':=by
 obtain⟨ns,hb,hc,hd,hn,hr⟩:=h
 have:ns=[]:=cY hc.len
 subst this
 refine cR (zbF r w hb) ?_
 rintro e w' ⟨rfl,h⟩
 exact⟨rfl,xD h hB (by rintro b rfl;exact hr)⟩
theorem zbD(r B:Nat)(g:Int×Int)(l:List (Int×Int))(w:ai)(h:GL w B r (g::l))(hB:B<=w.heap.size)(hl:l.length<=1099511627776):
  fV al.prog 244 #[.pointer (ab ⟨r,0,ak⟩)] w λ e w'=>e=.returned (.tuple #[.agg #[.int .i64 g.1,.int .i64 g.2],.bool ae])/\GL w' B r l/\cE B w w':=by
 obtain⟨ns,hb,hc,hd,hn,hr⟩:=h
 match ns,hc with
 |n::ns,hc=>
  have hmr:n≠r:=(hn n (by simp)).2
  have hmB:B<=n:=(hn n (by simp)).1
  have cj:=hc.lt
  have X6:(((g::l).length:Nat):Int)=(l.length:Int)+1:=by simp
  have zy3:(l.length:Int)+1-1=(l.length:Int):=by omega
  rw[X6] at hb
  match ns,l,hc with
  |[],[],hc=>
   refine cR (zeJ r n 0 g.1 g.2 w (dr hmr) (by omega) hb hc.1) ?_
   rintro e w' ⟨rfl,h1,h2,h3⟩
   exact⟨rfl,⟨[],by simpa [vu] using h1,trivial,by simp,by simp,hr⟩,xD h3 hB (by rintro b (rfl|rfl)<;>assumption)⟩
  |[],_::_,hc=>exact hc.2.elim
  |n2::ns,l,hc=>
   refine cR (zbE r n n2 _ l.length g.1 g.2 w (dr hmr) (by unfold vu;cases (n::n2::ns).getLast?<;>rfl) hl hb hc.1) ?_
   rintro e w' ⟨rfl,h1,h2,h3⟩
   rw[zy3] at h1
   refine⟨rfl,⟨n2::ns,?_,hc.2.keep λ b hbn=>?_,(List.nodup_cons.1 hd).2,λ x hx=>hn x (by simp[hx]),hr⟩,xD h3 hB (by rintro b (rfl|rfl)<;>assumption)⟩
   ·rw[List.getLast?_cons_cons] at h1
    exact h1
   ·refine h2 b (cj b (by simp[hbn])) (hn b (by simp[hbn])).2 ?_
    rintro rfl
    exact(List.nodup_cons.1 hd).1 hbn
def kV(w:ai)(base:Nat)(v:aj)(l:List (Int×Int)):Prop:=w.ownsRow base 96 2 v l.length (Ab.EL.bK l).enc
theorem kV.form{base:Nat}(h:kV w base v l):∃a c,v=.slice a l.length c:=by
 obtain⟨_,h|⟨g,cap,cur,h,_⟩⟩:=h
 ·exact⟨ak,0,by rw[h.1,h.2]⟩
 ·exact⟨_,_,h⟩
theorem zdt:(al.prog.info? 96).map (λ i=>(i.zero,i.size,i.bytes))=ab (ab (.agg #[.int .i64 0,.int .i64 0]),2,16):=by kernel_rfl
theorem nj.at{w:ai}:∀{ns:List Nat} {l:List (Int×Int)} {k:Nat},nj w ns l->k<l.length->∃n,(ns.drop k).head?=ab n/\n∈ns/\w.heap[n]?=ab (.cells #[.int .i64 (l.getD k (0,0)).1,.int .i64 (l.getD k (0,0)).2,vu (ns.drop (k+1)).head?] 258 (0,0))
 |n::ns,g::l,0,h,_=>⟨n,rfl,by simp,by simpa using h.1⟩
 |n::ns,g::l,k+1,h,hk=>by
  obtain⟨m,h1,h2,h3⟩:=nj.at (k:=k) h.2 (by simpa using hk)
  exact⟨m,by simpa using h1,by simp[h2],by simpa using h3⟩
 |[],[],_,_,hk=>by simp at hk
 |[],_::_,_,h,_=>h.elim
 |_::_,[],_,h,_=>h.elim
theorem Sl.got(h:Sl w 2 v l.length (Ab.EL.bK l).enc):∃a cap,v=.slice a l.length cap/\∀k,k<l.length->∀w1,cE w.heap.size w w1->∃g off,a=ab ⟨g,off,ak⟩/\w1.cell? ⟨g,off+k*2,ak⟩=ab (.int .i64 (l.getD k (0,0)).1)/\w1.cell? ⟨g,off+k*2+1,ak⟩=ab (.int .i64 (l.getD k (0,0)).2):=by
 obtain⟨a,cap,rfl,_⟩:=h.form
 refine⟨a,cap,rfl,λ k hk w1 hb=>?_⟩
 obtain⟨a',V2,he,hc⟩:=(h.below hb).form
 simp only[b9,true_and] at he
 obtain⟨rfl,rfl⟩:=he
 obtain⟨g,off,rfl,hj⟩:=hc k hk
 have e:∀(l:List (Int×Int)) (k:Nat),k<l.length->(Ab.EL.bK l).enc.getD (k*2) undef=.int .i64 (l.getD k (0,0)).1/\(Ab.EL.bK l).enc.getD (k*2+1) undef=.int .i64 (l.getD k (0,0)).2:=by
  intro l
  induction l with
  |nil=>intro k hk;simp at hk
  |cons x l ih=>
   intro k hk
   cases k with
   |zero=>simp[Ab.EL.enc]
   |succ k=>
    have:=ih k (by simpa using hk)
    have e1:(k+1)*2=k*2+1+1:=by omega
    simpa [Ab.EL.enc,e1] using this
 refine⟨g,off,rfl,?_,?_⟩
 ·have:=hj 0 (by omega)
  rw[ey,(e l k hk).1] at this
  exact this
 ·have:=hj 1 (by omega)
  rw[(e l k hk).2,<-gT] at this
  exact this
theorem QJ(l:List (Int×Int))(k:Nat)(h:k<l.length):l.take (k+1)=l.take k++[l[k]]:=by rw[dO,aW h];rfl
theorem oJ(v:aj)(l:List (Int×Int))(w:ai)(hv:Sl w 2 v l.length (Ab.EL.bK l).enc)(hl:l.length<=1099511627776):
  fV al.prog 149 #[v] w λ e w'=>∃r,e=.returned (.pointer (ab ⟨r,0,ak⟩))/\GL w' w.heap.size r l/\cE w.heap.size w w':=by
 obtain⟨a,cap,rfl,hc⟩:=hv.got
 have HC:=hid hc
 clear hv hc
 go_enter al.func149,Tryz.ntmps149
 go_wp2
 go_loopw [10] (λ i wr=>∃k:Nat,k<=l.length/\i=.int .i64 k/\GL wr w.heap.size w.heap.size (l.take k)/\cE w.heap.size w wr) (λ i _=>l.length-(intOf i).toNat)
 case atStart=>exact⟨0,bw _,rfl,⟨[],oD rfl,trivial,by simp,by simp,aA _⟩,zFR _ _⟩
 case round=>
  obtain⟨k,hk,rfl,Gk,hB⟩:=hrel
  have HR:=hid Gk
  have hB':=hid hB
  clear Gk
  by_cases cj:k<l.length
  ·obtain⟨g,off,rfl,hc1,hc2⟩:=HC.out k cj _ hB
   have hz:=hB.size
   clear hB
   go_wp2_with fail
   refine(Zi _ w.heap.size _ (l[k].1,l[k].2) _ (HR.out.below (zFR _ _)) (by simp;omega) (by simp;omega)).mono ?_
   rintro e w2 ⟨rfl,zuB,kU⟩
   have HR2:=hid zuB
   have HB2:=hid kU
   clear zuB kU hc1 hc2
   go_wp2_with fail
   go_roundw
   case rel=>
    refine⟨k+1,by omega,by go_num,?_,?_⟩
    ·rw[QJ l k cj]
     exact HR2.out
    ·exact(hB'.out.alloc (by omega) _).trans HB2.out
   case measure=>simp[intOf];omega
  ·clear hB
   go_wp2
   go_ret
   have Gk:=HR.out
   rw[bq (by omega)] at Gk
   exact⟨_,rfl,Gk,hB'.out⟩
theorem kV.lt{w:ai}{base:Nat}{v:aj}{l:List (Int×Int)}(h:kV w base v l):∀k,v.ownBlock=ab k->base<=k/\k<w.heap.size:=World.ownsRow.lt h
theorem kV.alloc{w:ai}{base:Nat}{v:aj}{l:List (Int×Int)}(h:kV w base v l)(o:Obj):kV (w.alloc o) base v l:=World.ownsRow.alloc h o
theorem Gi{ops:Array Oper}{rest:List Oper}{o:Oper}{a:Act}{Q:Exit->Act->ai->Prop}(hg:o.guard=ak)(s x:Operand)
  (ho:o.op=.call { callee:=.builtin .append,args:=#[s,x],argTypes:=#[25,25] })
  (base:Nat) (v:aj) (l:List (Int×Int)) (hs:a.eval s=v) (dY:kV w base v l) (vs:aj) (m:List (Int×Int)) (hx:a.eval x=vs) (yD:Sl w 2 vs m.length (EL.bK m).enc)
  (hb:l.length+m.length<=1099511627776) (GH:base<=w.heap.size)
  (h:∀a' c' w',kV w' base (.slice a' (l++m).length c') (l++m)->w.grownBy w' v.ownBlock->wpList al.prog ops Q rest (a.put o.dst (.slice a' (l++m).length c')) w'):wpList al.prog ops Q (o::rest) a w:=
 wpList_plain hg λ _ hK=>zF s x _ ho base 96 (.agg #[.int .i64 0,.int .i64 0]) 2 16 al.underlying25 zdt rfl (by omega) v _ _ hs dY vs _ _ hx yD (EL.one (.bK m)) (by simp only[maxLen];omega) (by omega) GH λ v' w' h1 h2 _ _=>by
  have h3:kV w' base v' (l++m):=by
   have e:(EL.bK (l++m)).enc=(EL.bK l).enc++(EL.bK m).enc:=by simp[EL.enc]
   unfold kV
   rw[dp,e]
   exact h1
  obtain⟨a',c',rfl⟩:=h3.form
  exact hK _ _ (h a' c' w' h3 h2)
theorem Ly{ops:Array Oper}{rest:List Oper}{o:Oper}{a:Act}{Q:Exit->Act->ai->Prop}(hg:o.guard=ak)(c:Operand)
  (cM:o.op=Op.makeSlice 25 (.const (.int .i64 0)) c) (n:Nat) (hc:a.eval c=.int .i64 n) (hn:n<=1099511627776) (base:Nat) (hb:base<=w.heap.size)
  (hK:∀w',kV w' base (.slice (ab ⟨w.heap.size,0,ak⟩) 0 n) []->cE w.heap.size w w'->wpList al.prog ops Q rest (a.put o.dst (.slice (ab ⟨w.heap.size,0,ak⟩) 0 n)) w'):
  wpList al.prog ops Q (o::rest) a w:=by
 obtain⟨i0,hi0,AL,Sw,OE⟩:=info_parts zdt
 exact wpList_make_own w hg (.const (.int .i64 0)) c 25 cM base 96 i0 (.agg #[.int .i64 0,.int .i64 0]) 2 al.underlying25 hi0 AL Sw .i64 .i64 n n rfl hc rfl (by rw[OE];omega) (by unfold maxLen;omega) hb
  λ w' h1 h2=>hK w' h1 ⟨h2.os,h2.tape,h2.output,h2.size,λ k hk=>h2.block k hk (by simp)⟩
def zuU:aj->Nat
 |.slice _ n _=>n
 |_=>0
theorem zsa(w:ai)(g:Int×Int):Sl (w.alloc (.cells #[.int .i64 g.1,.int .i64 g.2] 96)) 2 (.slice (ab ⟨w.heap.size,0,ak⟩) 1 1) 1 (EL.bK [g]).enc:=
 ⟨rfl,.inr ⟨w.heap.size,0,1,#[.int .i64 g.1,.int .i64 g.2],(96,(0,0)),rfl,aA _,oD rfl,⟨by simp,by simp[tJ]⟩,by simp[EL.enc]⟩⟩
theorem za(r B:Nat)(l:List (Int×Int))(w:ai)(h:GL w B r l)(hl:l.length<=1099511627776):
  fV al.prog 151 #[.pointer (ab ⟨r,0,ak⟩)] w λ e w'=>∃a c,e=.returned (.slice a l.length c)/\kV w' w.heap.size (.slice a l.length c) l/\cE w.heap.size w w':=by
 obtain⟨ns,hb,hc,hd,hn,hr⟩:=h
 have zuG:=(ah.1 hb).1
 obtain⟨c0,f0⟩:=blk hb
 have HB:=hid hb
 have HC:=hid hc
 clear hc hb hd hn
 go_enter al.func151,Tryz.ntmps151
 go_wp2_with (refine Ly rfl (.tmp 8) rfl l.length rfl (by omega) w.heap.size (by simp) ?_;intro w1 dY hg;obtain⟨c2,f2⟩:=blk (aK hg (by omega) HB.out))
 have hB:=hid hg
 have HO1:=hid dY
 clear hg dY c2 f2
 go_loopw [3,4] (λ v p wr=>∃(k:Nat) (a:Option Addr) (c:Nat),k<=l.length/\v=.slice a k c/\p=vu (ns.drop k).head?/\kV wr w.heap.size (.slice a k c) (l.take k)/\cE w.heap.size w wr) (λ v _ _=>l.length-zuU v)
 case atStart=>exact⟨0,_,_,bw _,rfl,rfl,HO1.out,hB.out⟩
 case round=>
  obtain⟨k,a,c,hk,rfl,rfl,dY,hBr⟩:=hrel
  have HO:=hid dY
  have HB1:=hid hBr
  have hz:=hBr.size
  clear dY
  by_cases cj:k<l.length
  ·obtain⟨n,hn1,hn2,hn3⟩:=HC.out.at cj
   rw[hn1]
   have hnl:=(ah.1 hn3).1
   obtain⟨c2,f2⟩:=blk (aK hBr hnl hn3)
   clear hBr
   have hlen:(l.take k++[l[k]]).length=k+1:=by simp;omega
   have Aq:∀j,(dj a k c).ownBlock=ab j->w.heap.size<=j:=λ j hj=>(HO.out.lt j hj).1
   simp only[vu,Option.map_some]
   go_wp2_with (refine Gi rfl (.tmp 20) (.tmp 25) rfl w.heap.size (.slice a k c) (l.take k) rfl (HO.out.alloc _) _ [l[k]] rfl (zsa wr l[k]) (by simp;omega) (by simp;omega) ?_;intro a2 c3 w2 GI hg2;rw[hlen] at GI ⊢;have HB2:=hid ((HB1.out.alloc (by omega) (.cells #[.int .i64 l[k].1,.int .i64 l[k].2] 96)).grown hg2 (by simp;omega) (λ j hj=>by have:=Aq j hj;omega));obtain⟨c4,f4⟩:=blk (aK HB2.out hnl hn3);have HO2:=hid GI;clear GI hg2)
   go_roundw
   case rel=>exact⟨k+1,a2,c3,by omega,rfl,by simp[vu],by rw[QJ l k cj];exact HO2.out,HB2.out⟩
   case measure=>simp[zuU];omega
  ·obtain rfl:k=l.length:=by omega
   have hd:ns.drop l.length=[]:=by rw[<-HC.out.len];simp
   rw[hd]
   have dY:=HO.out
   rw[xR] at dY
   replace dY:=hid dY
   simp only[List.head?_nil,vu,Option.map_none]
   clear hBr
   go_wp2
   go_ret
   exact⟨_,_,rfl,dY.out,HB1.out⟩
theorem zco(x y:Int)(hx:0<=x)(hx2:x<9223372036854775808)(hy:0<=y)(hy2:y<9223372036854775808):0<=aL.wrap ((aZ aL.bits x ^^^ aZ aL.bits y).toNat:Int):=by
 obtain⟨a,rfl⟩:=gn hx
 obtain⟨b,rfl⟩:=gn hy
 have ha:a<2 ^ 63:=by omega
 have hb:b<2 ^ 63:=by omega
 have h:(a ^^^ b)<2 ^ 63:=Nat.xor_lt_two_pow ha hb
 simp only[BitVec.ofInt_natCast,BitVec.toNat_xor,BitVec.toNat_ofNat]
 rw[xT (show a<2 ^ aL.bits from Nat.lt_trans ha (by decide)),xT (show b<2 ^ aL.bits from Nat.lt_trans hb (by decide)),IntKind.wrap_i64]
 omega
def On:Env:=[]
theorem Gd:bg al.prog On:=aC trivial
def So:Nat->Tr:=λ n=>match n with
 |7=>.op 0 0 (.op 1 0 (.op 2 0 (.op 3 0 (.op 4 0 (.op 5 0 (.op 6 0 (.op 7 0 (.op 8 0 (.op 9 0 (.op 10 0 (.op 11 0 (.op 12 0 (.op 13 0 (.op 14 0 (.op 15 0 (.op 16 0 (.op 17 0 (.op 18 0 (.op 19 0 (.op 20 0 (.op 21 0 (.op 22 0 (.op 23 0 (.op 24 0 (.op 25 0 (.op 26 0 (.op 27 0 (.op 28 0 (.op 29 0 (.op 30 0 (.op 31 0 (.op 32 0 (.op 33 0 (.op 34 0 (.op 35 0 (.op 36 0 (.op 37 1 (.op 38 1 (.op 39 1 (.op 40 1 (.op 41 1 (.op 42 1 (.op 43 1 (.op 44 1 (.op 45 2 (.nil))))))))))))))))))))))))))))))))))))))))))))))
 |_=>.nil
theorem NQ:Gn al.prog 55 105 [.inl .int] (λ p ⟨(n:Int),_⟩ K=>az (0<=p/\p<=1073741824) <| az (n<=4294967296) <| ∀y:Int,0<=y->(y<n\/y=0)->K (.l (.v (.int .i64 y))) (p+1)):=by
 refine np (TR:=So) aS aH Gd (Rn.fM Tryz.func55) rfl rfl ?_
 rintro v0 l p ⟨(n:Int),_⟩ K hl ⟨hp,⟨hn,hK⟩⟩
 replace hl:=gl l hl
 replace hn:n<=4294967296:=hn
 have hg:∀i,(l.getD i 0).toNat<256:=λ i=>UInt8.toNat_lt _
 have hL:0<=((EL.bytes l).len:Int)/\((EL.bytes l).len:Int)<=1099511627776:=⟨by omega,by show (l.length:Int)<=_;omega⟩
 have hm:∀x:Int,0<=x->0<=x % ((EL.bytes l).len:Int)/\(((EL.bytes l).len:Int)=0\/x % ((EL.bytes l).len:Int)<((EL.bytes l).len:Int)):=λ x hx=>by
  by_cases h0:((EL.bytes l).len:Int)=0
  ·rw[h0];simp[hx]
  ·exact⟨jq _ h0,.inr (o9 _ (by omega))⟩
 have hd:0<=(p+1-1)/((EL.bytes l).len:Int)/\(p+1-1)/((EL.bytes l).len:Int)<=p:=⟨Int.ediv_nonneg (by omega) hL.1,by
  have:=Int.ediv_le_self ((EL.bytes l).len:Int) (show 0<=p+1-1 by omega)
  omega⟩
 have m1:=hm (p+1-1) (by omega)
 have m2:=hm ((p+1-1)*7+3) (by omega)
 have g1:=hg (p+1-1).toNat
 have g2:=hg ((p+1-1) % ((EL.bytes l).len:Int)).toNat
 have g3:=hg (((p+1-1)*7+3) % ((EL.bytes l).len:Int)).toNat
 have he:((EL.bytes l).len:Int)=l.length:=rfl
 repeat' (conv=>whnf);first|refine az.mk ?_ ?_;exact gS|refine End.mk ?_|apply gU;exact gA|refine gB ?_ ?_<;>intro hb h<;>try exact c8
 ·refine ao _ (ao _ (aM ?_ (hK 0 (by omega) (.inr rfl))))
  repeat' first|exact gR|refine az.mk ?_ ?_
 ·refine ao _ (ao _ (aM ?_ (hK 0 (by omega) (.inr rfl))))
  repeat' first|exact gR|refine az.mk ?_ ?_
 ·refine ao _ (ao _ (aM ?_ (hK (((l.getD (p+1-1).toNat 0).toNat:Int) % n) (jq _ (by omega)) (.inl (o9 _ (by omega))))))
  repeat' first|exact gR|refine az.mk ?_ ?_
 ·exfalso
  simp only[decide_eq_true_eq] at hb
  omega
 ·refine az.mk ⟨zco _ _ (by omega) (by omega) (by omega) (by omega),by omega⟩ ?_
  repeat' (conv=>whnf);first|refine az.mk ?_ ?_;exact gS|refine End.mk ?_|apply gU;exact gA|refine gB ?_ ?_<;>intro hb h<;>try exact c8
  refine ao _ (ao _ (aM ?_ (hK (?x % n) (jq _ (show n≠0 by omega)) (.inl (o9 _ (show 0<n by omega))))))
  repeat' first|exact gR|refine az.mk ?_ ?_
def fK:CS:=jb 105 [.inl .int] (λ p ⟨(n:Int),_⟩ K=>az (0<=p/\p<=1073741824) <| az (n<=4294967296) <| ∀y:Int,0<=y->(y<n\/y=0)->K (.l (.v (.int .i64 y))) (p+1))
theorem eh:bW al.prog 55 fK:=tL gK NQ
theorem XN{a b:List Int}(ha:k<a.length)(hb:k<b.length)(h:a.take k=b.take k)(hg:a.getD k 0=b.getD k 0):a.take (k+1)=b.take (k+1):=by
 rw[kS ha,kS hb,h]
 simp only[dq,aW ha,aW hb,Option.getD_some] at hg
 rw[hg]
def RY:Env:=[]
theorem I4:bg al.prog RY:=aC trivial
def Uk:Nat->Tr:=λ n=>match n with
 |6=>.op 0 0 (.op 1 0 (.op 2 0 (.op 3 0 (.op 4 0 (.op 5 1 (.op 6 1 (.op 7 1 (.op 8 1 (.nil)))))))))
 |_=>.nil
def Ij:DA [.inl .ints,.inl .ints]->(DV->Prop)->Prop:=λ⟨a,b,_⟩ K=>K (.l (.v (.bool (decide (a=b)))))
theorem Rl:ji al.prog 25 [.inl .ints,.inl .ints] Ij:=by
 refine bh (TR:=Uk) aS aH I4 (Rn.fM Tryz.func25) rfl ?_
 rintro⟨(a:List Int),(b:List Int),_⟩ K hK ⟨hla,hlb,_⟩
 dsimp only[Ij] at hK
 replace hla:=gl a hla
 replace hlb:=gl b hlb
 repeat' (conv=>whnf);first|refine az.mk ?_ ?_;exact gS|refine End.mk ?_|apply gU;exact gA|refine gB ?_ ?_<;>intro hb h<;>try exact c8
 ·(refine gI hK ?_;repeat' first|exact gR|refine az.mk ?_ ?_)
  exact(decide_eq_false (λ e=>h (by rw[e]))).symm
 ·repeat' (conv=>whnf);first|refine az.mk ?_ ?_;exact gS|refine End.mk ?_|apply gU;exact gA|refine gB ?_ ?_<;>intro hb h<;>try exact c8
  refine iK.inv {k:Nat // k<=a.length/\a.take k=b.take k} (λ⟨k,_⟩=>[(5,.l (.v (.int .i64 k)))]) (λ _=>[]) (λ⟨k,_⟩=>a.length-k) ⟨0,bw _,rfl⟩ [] ?_ ?_
  ·repeat' first|refine az.mk ?_ ?_;exact gV|exact aV
  rintro⟨k,hk,tl⟩
  repeat' (conv=>whnf);first|refine az.mk ?_ ?_;exact gS|refine End.mk ?_|apply gU;exact gA|refine gB ?_ ?_<;>intro hb h<;>try exact c8
  ·(refine gI hK ?_;repeat' first|exact gR|refine az.mk ?_ ?_)
   exact(decide_eq_false (λ e=>h (by rw[e]))).symm
  ·have h2:a.take (k+1)=b.take (k+1):=by
    rw[je] at h
    exact XN (by omega) (by omega) tl h
   (refine ao ⟨k+1,by omega,h2⟩ (ao [] (aM ?_ ?_)))
   ·show a.length-(k+1)<a.length-k
    omega
   ·repeat' first|refine az.mk ?_ ?_;exact gV|exact aV
  ·(refine gI hK ?_;repeat' first|exact gR|refine az.mk ?_ ?_)
   rw[bq (by omega),bq (by omega)] at tl
   exact(decide_eq_true tl).symm
def zu:CS:=dn [.inl .ints,.inl .ints] Ij
theorem Ac:bW al.prog 25 zu:=bH Rl
def H7:Env:=[]
theorem Om:bg al.prog H7:=aC trivial
def P9:CS:=Jt jV H7 ja Tryz.f37
theorem S7:bW al.prog 37 P9:=iy aS aH Om (Rn.fM Tryz.func37)
def RU:Env:=[(93,y9)]
theorem IZ:bg al.prog RU:=aC ⟨wR,trivial⟩
def Ig:DA [.inr [.int,.int]]->(DV->Prop)->Prop:=λ⟨⟨a,b,_⟩,_⟩ K=>K (.l (.v (.bool (xe (a,b)))))
theorem BP:ji al.prog 148 [.inr [.int,.int]] Ig:=by
 refine bh (TR:=ja) aS aH IZ (Rn.fM Tryz.func148) rfl ?_
 rintro⟨⟨(a:Int),(b:Int),_⟩,_⟩ K hK _
 dsimp only[Ig] at hK
 repeat' (conv=>whnf);first|refine az.mk ?_ ?_;exact gS|refine End.mk ?_|apply gU;exact gA|refine gB ?_ ?_<;>intro hb h<;>try exact c8
 all_goals
  (refine gI hK ?_;repeat' first|exact gR|refine az.mk ?_ ?_)
  simp[xe, *]
def HF:CS:=dn [.inr [.int,.int]] Ig
theorem M8:bW al.prog 148 HF:=bH BP
def Xz:Env:=[(56,mj)]
theorem Og:bg al.prog Xz:=aC ⟨iW,trivial⟩
def QA:DA [.inr [.int,.int]]->(DV->Prop)->Prop:=λ⟨⟨a,b,_⟩,_⟩ K=>K (.l (.v (.bool (xe (a,b)))))
theorem Xr:ji al.prog 236 [.inr [.int,.int]] QA:=by
 refine bh (TR:=ja) aS aH Og (Rn.fM Tryz.func236) rfl ?_
 rintro⟨⟨(a:Int),(b:Int),_⟩,_⟩ K hK _
 dsimp only[QA] at hK
 repeat' (conv=>whnf);first|refine az.mk ?_ ?_;exact gS|refine End.mk ?_|apply gU;exact gA|refine gB ?_ ?_<;>intro hb h<;>try exact c8
 all_goals
  (refine gI hK ?_;repeat' first|exact gR|refine az.mk ?_ ?_)
  simp_all [xe,eF]
  try (intros;omega)
def Fe:CS:=dn [.inr [.int,.int]] QA
theorem Ed:bW al.prog 236 Fe:=bH Xr
def N2:Env:=[(148,HF)]
theorem FT:bg al.prog N2:=aC ⟨M8,trivial⟩
def EB:DA [.inr [.int,.int,.bK,.bool,.int]]->(DV->Prop)->Prop:=λ⟨⟨r,t,l,o,a,_⟩,_⟩ K=>K (.l (.v (.bool (ir ⟨r,t,l,o,a⟩))))
theorem Ae:ji al.prog 146 [.inr [.int,.int,.bK,.bool,.int]] EB:=by
 refine bh (TR:=ja) aS aH FT (Rn.fM Tryz.func146) rfl ?_
 dsimp only[DA,HL,Sh.T]
 rintro⟨⟨r,t,l,o,a,_⟩,_⟩ K hK ⟨⟨_,_,hl,_⟩,_⟩
 dsimp only[EB] at hK
 replace hl:=gl l hl
 repeat' (conv=>whnf);first|refine az.mk ?_ ?_;exact gS|refine End.mk ?_|apply gU;exact gA|refine gB ?_ ?_<;>intro hb h<;>try exact c8
 iterate 7 (first|((refine gI hK ?_;repeat' first|exact gR|refine az.mk ?_ ?_)<;>first|exact aV|exact(OT (by omega)).symm))
 refine iK.inv {k:Nat // k<=l.length/\EU (l.take k)=ae} (λ⟨k,_⟩=>[(44,.l (.v (.int .i64 k)))]) (λ _=>[]) (λ⟨k,_⟩=>l.length-k) ⟨0,bw _,rfl⟩ [0] ?_ ?_
 ·repeat' first|refine az.mk ?_ ?_;exact gV|exact aV
 rintro⟨k,hk,tl⟩
 repeat' (conv=>whnf);first|refine az.mk ?_ ?_;exact gS|refine End.mk ?_|apply gU;exact gA|refine gB ?_ ?_<;>intro hb h<;>try exact c8
 ·(refine gI hK ?_;repeat' first|exact gR|refine az.mk ?_ ?_)
  exact(OT (λ e=>by rw[P4 l k (by omega) (by simpa using h)] at e;exact absurd e.2.2.2.2 (by simp))).symm
 ·have h2:EU (l.take (k+1))=ae:=by rw[BA l k (by omega),tl];simpa using h
  (refine ao ⟨k+1,by omega,h2⟩ (ao [0] (aM ?_ ?_)))
  ·show l.length-(k+1)<l.length-k
   omega
  ·repeat' first|refine az.mk ?_ ?_;exact gV|exact aV
 ·(refine gI hK ?_;repeat' first|exact gR|refine az.mk ?_ ?_)
  rw[bq (by omega)] at tl
  exact(xu (by omega) (by omega) (by omega) (by omega) tl).symm
def oH:CS:=dn [.inr [.int,.int,.bK,.bool,.int]] EB
theorem nU:bW al.prog 146 oH:=bH Ae
def Oe:Env:=[(236,Fe),(56,mj)]
theorem F9:bg al.prog Oe:=aC ⟨Ed,iW,trivial⟩
def EM:DA [.inr [.int,.int,.bK,.bool,.int]]->(DV->Prop)->Prop:=λ⟨⟨r,t,l,o,a,_⟩,_⟩ K=>K (.l (.v (.bool (ir ⟨r,t,l,o,a⟩))))
theorem NL:ji al.prog 194 [.inr [.int,.int,.bK,.bool,.int]] EM:=by
 refine bh (TR:=ja) aS aH F9 (Rn.fM Tryz.func194) rfl ?_
 dsimp only[DA,HL,Sh.T]
 rintro⟨⟨r,t,l,o,a,_⟩,_⟩ K hK ⟨⟨_,_,hl,_⟩,_⟩
 dsimp only[EM] at hK
 replace hl:=gl l hl
 repeat' (conv=>whnf);first|refine az.mk ?_ ?_;exact gS|refine End.mk ?_|apply gU;exact gA|refine gB ?_ ?_<;>intro hb h<;>try exact c8
 refine iK.inv {k:Nat // k<=l.length/\EU (l.take k)=ae} (λ⟨k,_⟩=>[(3,.l (.v (.int .i64 k)))]) (λ _=>[]) (λ⟨k,_⟩=>l.length-k) ⟨0,bw _,rfl⟩ [0] ?_ ?_
 ·repeat' first|refine az.mk ?_ ?_;exact gV|exact aV
 rintro⟨k,hk,tl⟩
 repeat' (conv=>whnf);first|refine az.mk ?_ ?_;exact gS|refine End.mk ?_|apply gU;exact gA|refine gB ?_ ?_<;>intro hb h<;>try exact c8
 ·(refine gI hK ?_;repeat' first|exact gR|refine az.mk ?_ ?_)
  exact(OT (λ e=>by rw[P4 l k (by omega) (by simpa using h)] at e;exact absurd e.2.2.2.2 (by simp))).symm
 ·have h2:EU (l.take (k+1))=ae:=by rw[BA l k (by omega),tl];simpa using h
  (refine ao ⟨k+1,by omega,h2⟩ (ao [0] (aM ?_ ?_)))
  ·show l.length-(k+1)<l.length-k
   omega
  ·repeat' first|refine az.mk ?_ ?_;exact gV|exact aV
 all_goals
  rw[bq (by omega)] at tl
  (refine gI hK ?_;repeat' first|exact gR|refine az.mk ?_ ?_)
  first
  |exact(OT (by omega)).symm
  |(simp_all [ir];done)
  |(simp_all [ir];intros;omega)
def mK:CS:=dn [.inr [.int,.int,.bK,.bool,.int]] EM
theorem lI:bW al.prog 194 mK:=bH NL
def TQ:Env:=[]
theorem La:bg al.prog TQ:=aC trivial
theorem Z2(vr vt vi vo va vs:aj)(w:ai)(h1:vr.oneCell'=ae)(h2:vt.oneCell'=ae)(h3:vi.oneCell'=ae)(h4:vo.oneCell'=ae)(h5:va.oneCell'=ae)(h6:vs.oneCell'=ae):
  fV al.prog 237 #[.agg #[vr,vt,vi,vo,va],vs] w λ e w'=>e=.returned (.agg #[vr,vt,vs,vo,.int .i64 0])/\cE w.heap.size w w':=by
 have hI:Inv ⟨w,[]⟩ [] [] w:=⟨wa.refl _ _,rfl,λ k t e h=>by simp at h,λ i k b h=>by simp[ownB] at h⟩
 refine cR (zFQ (W0:=[]) (TR:=ja) (K:=λ r _=>r=.a [.v vr,.v vt,.v vs,.v vo,.v (.int .i64 0)]) aS aH ⟨La,.inl rfl⟩ (Rn.fM Tryz.func237) hI (xs:=[.a [.v vr,.v vt,.v vi,.v vo,.v va],.l (.v vs)]) (vs:=#[.agg #[vr,vt,vi,vo,va],vs]) ⟨⟨_,rfl,⟨h1,rfl⟩,⟨h2,rfl⟩,⟨h3,rfl⟩,⟨h4,rfl⟩,⟨h5,rfl⟩,trivial⟩,⟨h6,rfl⟩,trivial⟩ gK ?_) ?_
 ·repeat' (conv=>whnf);first|refine az.mk ?_ ?_;exact gS|refine Fork.mk ?_ ?_;exact ER|refine End.mk ?_|apply gU;exact gA|refine gB ?_ ?_<;>intro hb h<;>try exact c8|refine λ(y:Int) (h0:0<=y) h1=>?_
  all_goals exact rfl
 ·rintro e w' ⟨u,r,bG,cT,rfl,rfl,h7,nX,_⟩
  obtain⟨us,rfl,h8⟩:=h7
  refine⟨?_,⟨nX.kp.os,nX.kp.tape,nX.kp.output,nX.kp.size,λ b hb=>nX.kp.block b hb (by simp)⟩⟩
  have:us.toList=[vr,vt,vs,vo,.int .i64 0]:=by
   generalize us.toList=l at h8
   match l,h8 with
   |[a,b,c,d,e],⟨⟨_,h1⟩,⟨_,h2⟩,⟨_,h3⟩,⟨_,h4⟩,⟨_,h5⟩,_⟩=>rw[show a=vr from h1,show b=vt from h2,show c=vs from h3,show d=vo from h4,show e=.int .i64 0 from h5]
  rw[show us=#[vr,vt,vs,vo,.int .i64 0] from bk.1 this]
def r8 : CS :=
  { S := fun xs hp K => match xs with
      | [.a [r, t, _, o, _], .l s] => K (.a [r, t, s, o, .v (.int .i64 0)]) hp
      | _ => False
    C4 := fun _ => ab [] }
theorem uD:bW al.prog 237 r8:=by
 refine⟨ gK,λ xs hp K hS cx β w vs hI gl ha=>?_⟩
 simp only[r8] at hS
 split at hS
 ·rename_i r t i o a s
  cases yB:vs.toList with
  |nil=>rw[yB] at ha;exact ha.elim
  |cons v1 rest=>
   rw[yB] at ha
   match rest,ha with
   |[v2],⟨⟨us,e1,h1⟩,h2,_⟩=>
    subst e1
    match hus:us.toList,h1 with
    |[a1,a2,a3,a4,a5],⟨g1,g2,g3,g4,g5,_⟩=>
     have e2:vs=#[.agg #[a1,a2,a3,a4,a5],v2]:=bk.1 (by rw[yB,show us=#[a1,a2,a3,a4,a5] from bk.1 hus])
     subst e2
     refine cR (Z2 a1 a2 a3 a4 a5 v2 w g1.1 g2.1 g3.1 g4.1 g5.1 h2.1) ?_
     rintro e w' ⟨rfl,hb⟩
     exact⟨_,_,hp,β,rfl,hS,⟨_,rfl,g1,g2,h2,g4,⟨rfl,rfl⟩,trivial⟩,Out.stay hI hb⟩
 ·exact hS.elim
def Sa:Env:=[(194,mK),(237,r8)]
theorem Je:bg al.prog Sa:=aC ⟨lI,uD,trivial⟩
def Um:Nat->Tr:=λ n=>match n with
 |3=>.op 0 0 (.op 2 0 (.op 3 0 (.op 4 0 (.op 7 0 (.op 8 0 (.op 9 0 (.op 10 0 (.op 1 1 (.op 5 1 (.op 6 1 (.op 11 1 (.op 12 2 (.op 13 2 (.nil))))))))))))))
 |_=>.nil
def Is:DA [.inr [.int,.int,.bK,.bool,.int]]->(DV->Prop)->Prop:=λ⟨⟨r,t,l,o,a,_⟩,_⟩ K=>K (eT ⟨r,t,l,o,a⟩).d
theorem Rw:ji al.prog 207 [.inr [.int,.int,.bK,.bool,.int]] Is:=by
 refine bh (TR:=Um) aS aH Je (Rn.fM Tryz.func207) rfl ?_
 dsimp only[DA,HL,Sh.T]
 rintro⟨⟨r,t,l,o,a,_⟩,_⟩ K hK ⟨⟨_,_,hl,_⟩,_⟩
 dsimp only[Is] at hK
 replace hl:=gl l hl
 repeat' (conv=>whnf);first|refine az.mk ?_ ?_;exact gS|refine End.mk ?_|apply gU;exact gA|refine gB ?_ ?_<;>intro hb h<;>try exact c8
 all_goals (refine gI hK ?_;repeat' first|exact gR|refine az.mk ?_ ?_)
 all_goals clear hK
 all_goals (cases l<;>simp_all [eT,JE,EL.len]<;>first|done|omega)
def HW:CS:=dn [.inr [.int,.int,.bK,.bool,.int]] Is
theorem Ni:bW al.prog 207 HW:=bH Rw
def TN:Env:=[(194,mK),(237,r8),(236,Fe)]
theorem K5:bg al.prog TN:=aC ⟨lI,uD,Ed,trivial⟩
def XT:Nat->Tr:=λ n=>match n with
 |4=>.op 0 0 (.op 2 0 (.op 3 0 (.fork 1 1 (.fork 4 1 (.fork 5 1 (.op 6 1 (.op 7 2 (.nil))) 6 1 (.op 5 1 (.op 7 2 (.nil)))) 6 1 (.op 4 1 (.op 5 1 (.op 7 2 (.nil))))) 6 1 (.op 1 1 (.op 4 1 (.op 5 1 (.op 7 2 (.nil))))))))
 |7=>.op 0 0 (.op 2 0 (.op 3 0 (.op 5 0 (.fork 1 1 (.fork 4 1 (.op 6 1 (.op 7 1 (.op 8 1 (.op 9 2 (.op 10 2 (.nil)))))) 6 1 (.op 4 1 (.op 7 1 (.op 8 1 (.op 9 2 (.op 10 2 (.nil))))))) 6 1 (.op 1 1 (.op 4 1 (.op 7 1 (.op 8 1 (.op 9 2 (.op 10 2 (.nil)))))))))))
 |_=>.nil
def MB:DA [.inr [.int,.int,.bK,.bool,.int],.inr [.int,.int]]->(DV->Prop)->Prop:=λ⟨⟨r,t,l,o,a,_⟩,⟨x,y,_⟩,_⟩ K=>K (rN ⟨r,t,l,o,a⟩ (x,y)).d
theorem Tk:ji al.prog 198 [.inr [.int,.int,.bK,.bool,.int],.inr [.int,.int]] MB:=by
 refine bh (TR:=XT) aS aH K5 (Rn.fM Tryz.func198) rfl ?_
 dsimp only[DA,HL,Sh.T]
 rintro⟨⟨r,t,l,o,a,_⟩,⟨x,y,_⟩,_⟩ K hK ⟨⟨_,_,hl,_⟩,_⟩
 dsimp only[MB] at hK
 replace hl:=gl l hl
 refine fw (p:=ir ⟨r,t,l,o,a⟩=ae) (λ hv=>?_) (λ hv=>?_)
 ·have Uz:=oN hv
  dsimp only at Uz
  repeat' (conv=>whnf);first|refine az.mk ?_ ?_;exact gS|refine Fork.mk ?_ ?_;exact ER|refine End.mk ?_|apply gU;exact gA|refine gB ?_ ?_<;>intro hb h<;>try exact c8
  all_goals (refine gI hK ?_;repeat' first|exact gR|refine az.mk ?_ ?_)
  all_goals clear hK
  all_goals (by_cases cj:(l.length:Int)<r<;>first|(exfalso;omega)|skip)
  all_goals (simp_all [rN,LN,JE,EL.len]<;>first|done|omega)
 ·replace hv:ir ⟨r,t,l,o,a⟩=aa:=by simpa using hv
  repeat' (conv=>whnf);first|refine az.mk ?_ ?_;exact gS|refine Fork.mk ?_ ?_;exact ER|refine End.mk ?_|apply gU;exact gA|refine gB ?_ ?_<;>intro hb h<;>try exact c8
  all_goals (refine gI hK ?_;repeat' first|exact gR|refine az.mk ?_ ?_)
  all_goals clear hK
  all_goals (simp_all [rN,LN,JE,EL.len]<;>first|done|omega)
def L6:CS:=dn [.inr [.int,.int,.bK,.bool,.int],.inr [.int,.int]] MB
theorem QV:bW al.prog 198 L6:=bH Tk
theorem lg(r t:Int)(v:aj)(l:List (Int×Int))(o:Bool)(a:Int)(w:ai)(hv:Sl w 2 v l.length (EL.bK l).enc)(hl:l.length<=1099511627776)(hg:Gw w):
  fV al.prog 146 #[.agg #[.int .i64 r,.int .i64 t,v,.bool o,.int .i64 a]] w λ e w'=>e=.returned (.bool (ir ⟨r,t,l,o,a⟩))/\cE w.heap.size w w':=by
 refine(Ae ((r,t,l,o,a,()),()) (λ d=>d=.l (.v (.bool (ir ⟨r,t,l,o,a⟩)))) rfl w #[.agg #[.int .i64 r,.int .i64 t,v,.bool o,.int .i64 a]] ⟨⟨_,rfl,rfl,rfl,⟨hv,hl⟩,rfl,rfl,trivial⟩,trivial⟩ hg).mono ?_
 rintro e w' ⟨d,u,rfl,rfl,hb,bs,h1,_⟩
 obtain⟨rfl,_⟩:=h1
 exact⟨rfl,hb⟩
theorem eA(w:ai)(o o' o2:Obj):cE w.heap.size w (((w.alloc o).alloc o').alloc o2):=(((bO _ _).alloc (aA _) o).alloc (by simp) o').alloc (by simp;omega) o2
theorem kV.base{w:ai}{base AQ:Nat}{v:aj}{l:List (Int×Int)}(h:kV w base v l)(hb:AQ<=base):kV w AQ v l:=CV h hb
theorem kV.set{base:Nat}(h:kV w base v l){p:Addr}(hp:p.block<base)(u:aj):kV (w.setCell p u) base v l:=ownsRow_setCell_below h hp u
theorem kV.below{base:Nat}(h:kV w base v l)(hb:cE w.heap.size w w'):kV w' base v l:=Qs h hb
theorem kV.drew{w:ai}{base:Nat}{v:aj}{l:List (Int×Int)}(h:kV w base v l):kV w.drew base v l:=h
theorem Ex.zvw{p:Nat->Prop}(h:Ex p w w'):Ex p w.drew w'.drew:=h
theorem nE(w:ai)(b o:Nat)(v:aj):cE b w (w.setCell ⟨b,o,ak⟩ v):=⟨rfl,rfl,rfl,by simp,λ k hk=>heap_setCell_other w ⟨b,o,ak⟩ k v (by simp;omega)⟩
theorem SY(r t:Int)(v:aj)(g:Int×Int)(l:List (Int×Int))(o:Bool)(a:Int)(w:ai)(hv:Sl w 2 v (g::l).length (EL.bK (g::l)).enc)(hl:(g::l).length<=1099511627776)(fc:ir ⟨r,t,g::l,o,a⟩=ae)(Su:Gw w):
  fV al.prog 215 #[.agg #[.int .i64 r,.int .i64 t,v,.bool o,.int .i64 a]] w λ e w'=>∃a' c,e=.returned (.tuple #[.agg #[.int .i64 r,.int .i64 t,.slice a' l.length c,.bool o,.int .i64 0],.agg #[.int .i64 g.1,.int .i64 g.2],.bool ae])/\cE w.heap.size w w'/\kV w' w.heap.size (.slice a' l.length c) l:=by
 have VK:=hid fc
 obtain⟨a0,cap,rfl,-⟩:=hv.form
 have HV:=hid hv
 have hl2:l.length<=1099511627776:=by simp at hl;omega
 clear hv fc
 go_enter al.func215,Tryz.ntmps215
 go_wp2_with fail
 refine(lg _ _ _ _ _ _ _ (HV.out.below (eA _ _ _ _)) hl (Su.below (eA _ _ _ _))).mono ?_
 rintro e w1 ⟨rfl,sS⟩
 rw[VK.out]
 obtain⟨k0,k1,k2,Sw,hB⟩:=E3 sS
 have HI:=hid (HV.out.below hB)
 obtain⟨c0,f0⟩:=blk k0;replace k0:=hid k0
 replace k1:=hid k1
 replace k2:=hid k2
 replace hB:=hid hB
 clear sS
 go_wp2_with fail
 refine(oJ _ (g::l) _ HI.out hl).mono ?_
 rintro e w2 ⟨rr,rfl,Gk,kU⟩
 have HR:=hid Gk
 have hrr:=Gk.lt
 first|(replace k0:=hid (aK kU gO k0.out))|(replace k0:=hid (aK kU gO (bY k0.out)))
 first|(replace k1:=hid (aK kU gO k1.out))|(replace k1:=hid (aK kU gO (bY k1.out)))
 first|(replace k2:=hid (aK kU gO k2.out))|(replace k2:=hid (aK kU gO (bY k2.out)))
 replace hB:=hid (zFP hB.out kU)
 have OE:=kU.size
 clear Gk kU c0 f0
 go_wp2_with fail
 refine(zbD rr w1.heap.size g l _ HR.out OE hl2).mono ?_
 rintro e w3 ⟨rfl,Gk,xc⟩
 have HR3:=hid Gk
 have hz3:=xc.size
 first|(replace k0:=hid (aK xc gO k0.out))|(replace k0:=hid (aK xc gO (bY k0.out)))
 first|(replace k1:=hid (aK xc gO k1.out))|(replace k1:=hid (aK xc gO (bY k1.out)))
 first|(replace k2:=hid (aK xc gO k2.out))|(replace k2:=hid (aK xc gO (bY k2.out)))
 replace hB:=hid ((hB.out.trans (xc.mono (by omega))))
 clear Gk xc
 obtain⟨c0,f0⟩:=blk k0.out;have z0:=(ah.1 k0.out).1
 obtain⟨c1,f1⟩:=blk k1.out;have z1:=(ah.1 k1.out).1
 obtain⟨c2,f2⟩:=blk k2.out;have z2:=(ah.1 k2.out).1
 go_wp2_with fail
 refine(za rr w1.heap.size l _ (HR3.out.below (zFR _ _)) hl2).mono ?_
 rintro e w4 ⟨a4,c4,rfl,dY,AH⟩
 have k6:=hid (aK AH (by simp) (oD (w:=w3) rfl))
 first|(replace k0:=hid (aK AH gO k0.out))|(replace k0:=hid (aK AH gO (bY k0.out)))
 first|(replace k1:=hid (aK AH gO k1.out))|(replace k1:=hid (aK AH gO (bY k1.out)))
 first|(replace k2:=hid (aK AH gO k2.out))|(replace k2:=hid (aK AH gO (bY k2.out)))
 have hz4:=AH.size
 replace hB:=hid (zFP (hB.out.alloc (by omega) _) AH)
 have HO:=hid dY
 clear dY AH
 obtain⟨c0,f0⟩:=blk k0.out;have z0:=(ah.1 k0.out).1
 obtain⟨c1,f1⟩:=blk k1.out;have z1:=(ah.1 k1.out).1
 obtain⟨c2,f2⟩:=blk k2.out;have z2:=(ah.1 k2.out).1
 obtain⟨c6,f6⟩:=blk k6.out;have z6:=(ah.1 k6.out).1
 simp only[size_alloc] at hz4 HO
 clear c1 f1 c2 f2 c6 f6
 go_upto_region 8 with fail
 clear c0 f0
 have q0:(w4.setCell ⟨w.heap.size,2,ak⟩ (.slice a4 l.length c4)).heap[w.heap.size]?=ab (.cells #[.int .i64 r,.int .i64 t,.slice a4 l.length c4,.bool o,.int .i64 a] 27 (0,0)):=by simpa using ml (o:=2) (v:=dj a4 l.length c4) k0.out
 replace k1:=hid (oM (p:=⟨w.heap.size,2,ak⟩) (v:=.slice a4 l.length c4) (by simp) k1.out)
 replace k2:=hid (oM (p:=⟨w.heap.size,2,ak⟩) (v:=.slice a4 l.length c4) (by simp) k2.out)
 replace k6:=hid (oM (p:=⟨w.heap.size,2,ak⟩) (v:=.slice a4 l.length c4) (by simp;omega) k6.out)
 replace HO:=hid (HO.out.set (p:=⟨w.heap.size,2,ak⟩) (by simp;omega) (.slice a4 l.length c4))
 replace hB:=hid (hB.out.trans (nE w4 w.heap.size 2 (.slice a4 l.length c4)))
 have hz5:(w4.setCell ⟨w.heap.size,2,ak⟩ (.slice a4 l.length c4)).heap.size=w4.heap.size:=size_set _ _ _
 clear k0
 generalize w4.setCell ⟨w.heap.size,2,ak⟩ (.slice a4 l.length c4)=w5 at q0 k1 k2 k6 HO hB hz5 ⊢
 have k0:=hid q0
 clear q0
 obtain⟨c0,f0⟩:=blk k0.out;have z0:=(ah.1 k0.out).1
 go_upto_region 9 with fail
 clear c0 f0
 have q0:(w5.setCell ⟨w.heap.size,4,ak⟩ (.int .i64 0)).heap[w.heap.size]?=ab (.cells #[.int .i64 r,.int .i64 t,.slice a4 l.length c4,.bool o,.int .i64 0] 27 (0,0)):=by simpa using ml (o:=4) (v:=Value.int .i64 0) k0.out
 replace k1:=hid (oM (p:=⟨w.heap.size,4,ak⟩) (v:=.int .i64 0) (by simp) k1.out)
 replace k2:=hid (oM (p:=⟨w.heap.size,4,ak⟩) (v:=.int .i64 0) (by simp) k2.out)
 replace k6:=hid (oM (p:=⟨w.heap.size,4,ak⟩) (v:=.int .i64 0) (by simp;omega) k6.out)
 replace HO:=hid (HO.out.set (p:=⟨w.heap.size,4,ak⟩) (by simp;omega) (.int .i64 0))
 replace hB:=hid (hB.out.trans (nE w5 w.heap.size 4 (.int .i64 0)))
 have hz6:(w5.setCell ⟨w.heap.size,4,ak⟩ (.int .i64 0)).heap.size=w5.heap.size:=size_set _ _ _
 clear k0
 generalize w5.setCell ⟨w.heap.size,4,ak⟩ (.int .i64 0)=w6 at q0 k1 k2 k6 HO hB hz6 ⊢
 have k0:=hid q0
 clear q0
 have z0:w.heap.size<w6.heap.size:=by omega
 have z1:w.heap.size+1<w6.heap.size:=by omega
 have z2:w.heap.size+2<w6.heap.size:=by omega
 have z6:w3.heap.size<w6.heap.size:=by omega
 obtain⟨c0,f0⟩:=blk k0.out
 obtain⟨c1,f1⟩:=blk k1.out
 obtain⟨c2,f2⟩:=blk k2.out
 obtain⟨c6,f6⟩:=blk k6.out
 refine jL (λ b=>b≠w.heap.size+1) (.op 0 0 (.op 1 0 (.op 2 1 (.op 3 2 (.op 4 2 (.nil)))))) gK rfl gK gK gK (λ _ _ d _ _ h=>by cases d<;>exact h) ?_
 go_wp2_with (first
  |(refine nz (by rfl) (by rfl) (by rfl) (by rfl) ?_;intro K hK)
  |(refine lz (by rfl) (by rfl) (by rfl) gK ?_;intro K hK)
  |(refine nt (k:=.i64) (by rfl) (by rfl) (by rfl) (by rfl) gK ?_;intro K hK)
  |(refine nv (by rfl) (by rfl) (by rfl) (by rfl) (by first|trivial|(simp;done)|(simp;omega)|omega) (by first|(simp[*];done)|go_simp) ?_;intro K hK)
  |(refine nu (by rfl) (by rfl) ?_;intro K hK)
  |(refine ny (by rfl) (by rfl) ?_)
  |(refine pU ?_))
 refine Xb (by rfl) (by rfl) ?_;intro K hK;go_wp2_with fail;refine⟨(by repeat (first|(with_reducible exact Ex.refl _ _)|(with_reducible refine Ex.zjr _ _ (by simp) ?_)|(with_reducible refine Ex.zvw ?_))),?_⟩
 go_wp2_with (first
  |(refine nz (by rfl) (by rfl) (by rfl) (by rfl) ?_;intro K hK)
  |(refine lz (by rfl) (by rfl) (by rfl) gK ?_;intro K hK)
  |(refine nt (k:=.i64) (by rfl) (by rfl) (by rfl) (by rfl) gK ?_;intro K hK)
  |(refine nv (by rfl) (by rfl) (by rfl) (by rfl) (by first|trivial|(simp;done)|(simp;omega)|omega) (by first|(simp[*];done)|go_simp) ?_;intro K hK)
  |(refine nu (by rfl) (by rfl) ?_;intro K hK)
  |(refine ny (by rfl) (by rfl) ?_)
  |(refine pU ?_))
 exact dW (v:=.tuple #[.agg #[.int .i64 r,.int .i64 t,.slice a4 l.length c4,.bool o,.int .i64 0],.agg #[.int .i64 g.1,.int .i64 g.2],.bool ae]) (by simp[results,Tryz.results215,go_sem,c1,c2]) rfl ⟨_,_,rfl,(by repeat (first|(with_reducible exact dU (by assumption))|(with_reducible assumption)|(with_reducible exact bO _ _)|(with_reducible refine eL ?_ gO _)|(with_reducible refine dB ?_ gO _)|(with_reducible refine fZ ?_)|(with_reducible refine below_drewN ?_ _)|exact bO _ _|assumption|exact dU (by assumption))),kV.base (base:=w3.heap.size+1) (by repeat (first|(with_reducible exact HO.out)|(with_reducible refine kV.set ?_ (by simp;omega) _)|(with_reducible refine kV.drew ?_))) (by omega)⟩
theorem Xh(r t:Int)(v:aj)(l:List (Int×Int))(o:Bool)(a:Int)(w:ai)(hv:Sl w 2 v l.length (EL.bK l).enc)(hl:l.length<=1099511627776)(fc:ir ⟨r,t,l,o,a⟩=aa)(Su:Gw w):
  fV al.prog 215 #[.agg #[.int .i64 r,.int .i64 t,v,.bool o,.int .i64 a]] w λ e w'=>e=.returned (.tuple #[.agg #[.int .i64 0,.int .i64 0,.slice ak 0 0,.bool aa,.int .i64 0],.agg #[.int .i64 0,.int .i64 0],.bool aa])/\cE w.heap.size w w':=by
 have VK:=hid fc
 obtain⟨a0,cap,rfl,-⟩:=hv.form
 have HV:=hid hv
 clear hv fc
 go_enter al.func215,Tryz.ntmps215
 go_wp2_with fail
 refine(lg _ _ _ _ _ _ _ (HV.out.below (eA _ _ _ _)) hl (Su.below (eA _ _ _ _))).mono ?_
 rintro e w1 ⟨rfl,sS⟩
 rw[VK.out]
 obtain⟨k0,k1,k2,Sw,hB⟩:=E3 sS
 obtain⟨c1,f1⟩:=blk k1
 obtain⟨c2,f2⟩:=blk k2
 replace hB:=hid hB
 clear sS k0 k1 k2
 go_wp2
 exact dW (v:=.tuple #[.agg #[.int .i64 0,.int .i64 0,.slice ak 0 0,.bool aa,.int .i64 0],.agg #[.int .i64 0,.int .i64 0],.bool aa]) (by simp[results,Tryz.results215,go_sem,c1,c2]) rfl ⟨rfl,(by repeat (first|(with_reducible exact dU (by assumption))|(with_reducible assumption)|(with_reducible exact bO _ _)|(with_reducible refine eL ?_ gO _)|(with_reducible refine dB ?_ gO _)|(with_reducible refine fZ ?_)|(with_reducible refine below_drewN ?_ _)|exact bO _ _|assumption|exact dU (by assumption)))⟩
theorem Xi(r t:Int)(v:aj)(o:Bool)(a:Int)(w:ai)(hv:Sl w 2 v ([]:List (Int×Int)).length (EL.bK []).enc)(fc:ir ⟨r,t,[],o,a⟩=ae)(Su:Gw w):
  fV al.prog 215 #[.agg #[.int .i64 r,.int .i64 t,v,.bool o,.int .i64 a]] w λ e w'=>e=.returned (.tuple #[.agg #[.int .i64 0,.int .i64 0,.slice ak 0 0,.bool aa,.int .i64 0],.agg #[.int .i64 0,.int .i64 0],.bool aa])/\cE w.heap.size w w':=by
 have VK:=hid fc
 obtain⟨a0,cap,rfl,-⟩:=hv.form
 have HV:=hid hv
 clear hv fc
 go_enter al.func215,Tryz.ntmps215
 go_wp2_with fail
 refine(lg _ _ _ _ _ _ _ (HV.out.below (eA _ _ _ _)) (by simp) (Su.below (eA _ _ _ _))).mono ?_
 rintro e w1 ⟨rfl,sS⟩
 rw[VK.out]
 obtain⟨k0,k1,k2,Sw,hB⟩:=E3 sS
 have HI:=hid (HV.out.below hB)
 obtain⟨c0,f0⟩:=blk k0;replace k0:=hid k0
 replace k1:=hid k1
 replace k2:=hid k2
 replace hB:=hid hB
 clear sS
 go_wp2_with fail
 refine(oJ _ [] _ HI.out (by simp)).mono ?_
 rintro e w2 ⟨rr,rfl,Gk,kU⟩
 have HR:=hid Gk
 first|(replace k0:=hid (aK kU gO k0.out))|(replace k0:=hid (aK kU gO (bY k0.out)))
 first|(replace k1:=hid (aK kU gO k1.out))|(replace k1:=hid (aK kU gO (bY k1.out)))
 first|(replace k2:=hid (aK kU gO k2.out))|(replace k2:=hid (aK kU gO (bY k2.out)))
 replace hB:=hid (zFP hB.out kU)
 have OE:=kU.size
 clear Gk kU c0 f0
 go_wp2_with fail
 refine(zeI rr w1.heap.size _ HR.out OE).mono ?_
 rintro e w3 ⟨rfl,xc⟩
 have hz3:=xc.size
 first|(replace k1:=hid (aK xc gO k1.out))|(replace k1:=hid (aK xc gO (bY k1.out)))
 first|(replace k2:=hid (aK xc gO k2.out))|(replace k2:=hid (aK xc gO (bY k2.out)))
 replace hB:=hid ((hB.out.trans (xc.mono (by omega))))
 clear xc
 obtain⟨c1,f1⟩:=blk k1.out;have z1:=(ah.1 k1.out).1
 obtain⟨c2,f2⟩:=blk k2.out;have z2:=(ah.1 k2.out).1
 go_wp2
 exact dW (v:=.tuple #[.agg #[.int .i64 0,.int .i64 0,.slice ak 0 0,.bool aa,.int .i64 0],.agg #[.int .i64 0,.int .i64 0],.bool aa]) (by simp[results,Tryz.results215,go_sem,c1,c2,z1,z2]) rfl ⟨rfl,(by repeat (first|(with_reducible exact dU (by assumption))|(with_reducible assumption)|(with_reducible exact bO _ _)|(with_reducible refine eL ?_ gO _)|(with_reducible refine dB ?_ gO _)|(with_reducible refine fZ ?_)|(with_reducible refine below_drewN ?_ _)|exact bO _ _|assumption|exact dU (by assumption)))⟩
theorem W6{r t:Int}{o:Bool}{a:Int}{us:List aj}(h:VV w [.int,.int,.bK,.bool,.int] (r,t,l,o,a,()) us):∃v,us=[.int .i64 r,.int .i64 t,v,.bool o,.int .i64 a]/\Sl w 2 v l.length (EL.bK l).enc/\l.length<=1099511627776:=by
 match us,h with
 |[x1,x2,x3,x4,x5],⟨h1,h2,⟨h3,h3'⟩,h4,h5,_⟩=>exact⟨x3,by rw[show x1=_ from h1,show x2=_ from h2,show x4=_ from h4,show x5=_ from h5],h3,h3'⟩
theorem Rd:ji al.prog 215 [.inr [.int,.int,.bK,.bool,.int]] (λ⟨⟨r,t,l,o,a,_⟩,_⟩ K=>K (eT ⟨r,t,l,o,a⟩).d):=by
 rintro⟨⟨r,t,l,o,a,_⟩,_⟩ K hK w vs hr hg
 replace hK:K (eT ⟨r,t,l,o,a⟩).d:=hK
 obtain⟨v,rfl,hv,hl⟩:∃v,vs=#[.agg #[.int .i64 r,.int .i64 t,v,.bool o,.int .i64 a]]/\Sl w 2 v l.length (EL.bK l).enc/\l.length<=1099511627776:=by
  cases yB:vs.toList with
  |nil=>rw[yB] at hr;exact hr.elim
  |cons x rest=>
   rw[yB] at hr
   match rest,hr with
   |[],⟨⟨us,ex,hu⟩,_⟩=>
    subst ex
    obtain⟨v,e,h1,h2⟩:=W6 hu
    exact⟨v,bk.1 (by rw[yB,show us=#[.int .i64 r,.int .i64 t,v,.bool o,.int .i64 a] from bk.1 e]),h1,h2⟩
 have LL:∀(w':ai),cE w.heap.size w w'->eT ⟨r,t,l,o,a⟩=⟨JE,(0,0),aa⟩->∃d v,oP (.tuple #[.agg #[.int .i64 0,.int .i64 0,.slice ak 0 0,.bool aa,.int .i64 0],.agg #[.int .i64 0,.int .i64 0],.bool aa])=.returned v/\K d/\cE w.heap.size w w'/\∃bs,frV w' w.heap.size d v bs/\bs.Nodup:=by
  intro w' hb he
  rw[he] at hK
  exact⟨_,_,rfl,hK,hb,[],⟨_,rfl,[],[],rfl,⟨_,rfl,[],[],rfl,⟨rfl,rfl,rfl⟩,[],[],rfl,⟨rfl,rfl,rfl⟩,[],[],rfl,⟨World.ownsRow_nil _ _ _ _,bw _,rfl⟩,[],[],rfl,⟨rfl,rfl,rfl⟩,[],[],rfl,⟨rfl,rfl,rfl⟩,rfl⟩,
   [],[],rfl,⟨_,rfl,[],[],rfl,⟨rfl,rfl,rfl⟩,[],[],rfl,⟨rfl,rfl,rfl⟩,rfl⟩,[],[],rfl,⟨rfl,rfl,rfl⟩,rfl⟩,By⟩
 cases fc:ir ⟨r,t,l,o,a⟩ with
 |false=>
  refine(Xh r t v l o a w hv hl fc hg).mono ?_
  rintro e w' ⟨rfl,hb⟩
  exact LL w' hb (by simp[eT,fc])
 |true=>
  cases l with
  |nil=>
   refine(Xi r t v o a w hv fc hg).mono ?_
   rintro e w' ⟨rfl,hb⟩
   exact LL w' hb (by simp[eT,fc])
  |cons g l=>
   refine(SY r t v g l o a w hv hl fc hg).mono ?_
   rintro e w' ⟨a',c,rfl,hb,ho⟩
   have he:eT ⟨r,t,g::l,o,a⟩=⟨⟨r,t,l,o,0⟩,g,ae⟩:=by simp[eT,fc]
   rw[he] at hK
   refine⟨_,_,rfl,hK,hb,(dj a' l.length c).ownBlock.toList,⟨_,rfl,(dj a' l.length c).ownBlock.toList,[],(eO _).symm,⟨_,rfl,[],_,rfl,⟨rfl,rfl,rfl⟩,[],_,rfl,⟨rfl,rfl,rfl⟩,_,[],(eO _).symm,⟨ho,?_,rfl⟩,[],[],rfl,⟨rfl,rfl,rfl⟩,[],[],rfl,⟨rfl,rfl,rfl⟩,rfl⟩,
    [],[],rfl,⟨_,rfl,[],[],rfl,⟨rfl,rfl,rfl⟩,[],[],rfl,⟨rfl,rfl,rfl⟩,rfl⟩,[],[],rfl,⟨rfl,rfl,rfl⟩,rfl⟩,by cases (dj a' l.length c).ownBlock<;>simp⟩
   simp at hl
   show l.length<=1099511627776
   omega
def HA:CS:=dn [.inr [.int,.int,.bK,.bool,.int]] (λ⟨⟨r,t,l,o,a,_⟩,_⟩ K=>K (eT ⟨r,t,l,o,a⟩).d)
theorem M5:bW al.prog 215 HA:=bH Rd
theorem XF(r t:Int)(v:aj)(l:List (Int×Int))(o:Bool)(a:Int)(w:ai)(hv:Sl w 2 v l.length (EL.bK l).enc)(hl:l.length<=1099511627776):
  fV al.prog 147 #[.agg #[.int .i64 r,.int .i64 t,v,.bool o,.int .i64 a]] w λ e w'=>∃a' c,e=.returned (.agg #[.int .i64 r,.int .i64 t,.slice a' l.length c,.bool o,.int .i64 a])/\cE w.heap.size w w'/\kV w' w.heap.size (.slice a' l.length c) l:=by
 obtain⟨a0,cap,rfl,-⟩:=hv.form
 have HV:=hid hv
 clear hv
 go_enter al.func147,Tryz.ntmps147
 go_wp2_with fail
 refine(oJ _ l _ (HV.out.below (kM _ _ _)) hl).mono ?_
 rintro e w1 ⟨rr,rfl,Gk,sS⟩
 have HR:=hid Gk
 obtain⟨k0,k1,Sw,hB⟩:=Ps sS
 have hrr:=GL.lt Gk
 clear Gk
 replace k0:=hid k0
 replace k1:=hid k1
 replace hB:=hid hB
 clear sS
 go_wp2_with fail
 refine(za rr _ l _ HR.out hl).mono ?_
 rintro e w2 ⟨a5,c5,rfl,dY,kU⟩
 first|(replace k0:=hid (aK kU gO k0.out))|(replace k0:=hid (aK kU gO (bY k0.out)))
 first|(replace k1:=hid (aK kU gO k1.out))|(replace k1:=hid (aK kU gO (bY k1.out)))
 replace hB:=hid (zFP hB.out kU)
 have OE:=kU.size
 have HO:=hid dY
 clear dY kU
 obtain⟨c0,f0⟩:=blk k0.out;have z0:=(ah.1 k0.out).1
 go_upto_region 2 with fail
 clear c0 f0
 have q0:(w2.setCell ⟨w.heap.size,2,ak⟩ (.slice a5 l.length c5)).heap[w.heap.size]?=ab (.cells #[.int .i64 r,.int .i64 t,.slice a5 l.length c5,.bool o,.int .i64 a] 27 (0,0)):=by simpa using ml (o:=2) (v:=dj a5 l.length c5) k0.out
 replace k1:=hid (oM (p:=⟨w.heap.size,2,ak⟩) (v:=.slice a5 l.length c5) (by simp) k1.out)
 replace HO:=hid (HO.out.set (p:=⟨w.heap.size,2,ak⟩) (by simp;omega) (.slice a5 l.length c5))
 replace hB:=hid (hB.out.trans (nE w2 w.heap.size 2 (.slice a5 l.length c5)))
 have hz6:(w2.setCell ⟨w.heap.size,2,ak⟩ (.slice a5 l.length c5)).heap.size=w2.heap.size:=size_set _ _ _
 clear k0
 generalize w2.setCell ⟨w.heap.size,2,ak⟩ (.slice a5 l.length c5)=w6 at q0 k1 HO hB hz6 ⊢
 have k0:=hid q0
 clear q0
 obtain⟨c0,f0⟩:=blk k0.out
 obtain⟨c1,f1⟩:=blk k1.out
 have z0:w.heap.size<w6.heap.size:=by omega
 have z1:w.heap.size+1<w6.heap.size:=by omega
 go_wp2
 exact dW (v:=.agg #[.int .i64 r,.int .i64 t,.slice a5 l.length c5,.bool o,.int .i64 a]) (by simp[results,Tryz.results147,go_sem,c1]) rfl ⟨_,_,rfl,(by repeat (first|(with_reducible exact dU (by assumption))|(with_reducible assumption)|(with_reducible exact bO _ _)|(with_reducible refine eL ?_ gO _)|(with_reducible refine dB ?_ gO _)|(with_reducible refine fZ ?_)|(with_reducible refine below_drewN ?_ _)|exact bO _ _|assumption|exact dU (by assumption))),kV.base (base:=w1.heap.size) (by repeat (first|(with_reducible exact HO.out)|(with_reducible refine kV.set ?_ (by simp;omega) _)|(with_reducible refine kV.drew ?_))) (by omega)⟩
theorem Ri:ji al.prog 147 [.inr [.int,.int,.bK,.bool,.int]] (λ⟨⟨rr,rt,rl,ro,ra,_⟩,_⟩ K=>K (.a (yy.d ⟨rr,rt,rl,ro,ra⟩))):=by
 rintro⟨⟨(rr:Int),(rt:Int),(rl:List (Int×Int)),(ro:Bool),(ra:Int),_⟩,_⟩ K hK w vs hr hg
 replace hK:K (.a (yy.d ⟨rr,rt,rl,ro,ra⟩)):=hK
 obtain⟨v,rfl,hv,hl⟩:∃v,vs=#[.agg #[.int .i64 rr,.int .i64 rt,v,.bool ro,.int .i64 ra]]/\Sl w 2 v rl.length (EL.bK rl).enc/\rl.length<=1099511627776:=by
  cases yB:vs.toList with
  |nil=>rw[yB] at hr;exact hr.elim
  |cons x rest=>
   rw[yB] at hr
   match rest,hr with
   |[],⟨⟨us,ex,hu⟩,_⟩=>
    subst ex
    obtain⟨v,e,h1,h2⟩:=W6 hu
    exact⟨v,bk.1 (by rw[yB,show us=#[.int .i64 rr,.int .i64 rt,v,.bool ro,.int .i64 ra] from bk.1 e]),h1,h2⟩
 refine(XF rr rt v rl ro ra w hv hl).mono ?_
 rintro e w' ⟨a',c,rfl,hb,ho⟩
 exact⟨_,_,rfl,hK,hb,(dj a' rl.length c).ownBlock.toList,⟨_,rfl,[],_,rfl,⟨rfl,rfl,rfl⟩,[],_,rfl,⟨rfl,rfl,rfl⟩,_,[],(eO _).symm,⟨ho,hl,rfl⟩,[],[],rfl,⟨rfl,rfl,rfl⟩,[],[],rfl,⟨rfl,rfl,rfl⟩,rfl⟩,by cases (dj a' rl.length c).ownBlock<;>simp⟩
def zr:CS:=dn [.inr [.int,.int,.bK,.bool,.int]] (λ⟨⟨rr,rt,rl,ro,ra,_⟩,_⟩ K=>K (.a (yy.d ⟨rr,rt,rl,ro,ra⟩)))
theorem z9:bW al.prog 147 zr:=bH Ri
end
section
open Go.RowKit
theorem Fl(x:Int)(w:ai):fV al.prog 93 #[.int .i64 x] w λ e w'=>e=.returned (.bool (eF x))/\w=w':=by
 by_cases h0:0<=x
 all_goals
  go_enter al.func93,Tryz.ntmps93
  go_wp2
  go_ret
  exact⟨zc7 (by rw[Bool.eq_iff_iff];simp[eF];omega),rfl⟩
theorem Xj(v:aj)(l:List Int)(w:ai)(hv:pK w v l)(hl:l.length<=1099511627776):
  fV al.prog 58 #[v] w λ e w'=>e=.returned (.bool (ko l))/\w=w':=by
 obtain⟨a,cap,rfl,hc⟩:=hv.form
 go_enter al.func58,Tryz.ntmps58
 go_wp2
 go_loop [7] (λ i=>∃k:Nat,k<=l.length/\i=.int .i64 k/\ko (l.take k)=ae) (λ i=>l.length-(intOf i).toNat)
 case atStart=>exact⟨0,bw _,rfl,rfl⟩
 case round=>
  obtain⟨k,hk,rfl,tl⟩:=hrel
  have HK:=hid tl
  clear tl
  by_cases cj:k<l.length
  ·obtain⟨g,off,rfl,hcell⟩:=hc k cj
   clear hc
   cases hb:eF l[k]
   ·go_wp2_with ((go_at_call 93;refine(Fl _ _).mono ?_;rintro e w' ⟨rfl,rfl⟩))
    go_ret
    exact⟨zc7 (Fc l k cj (by simpa [cj] using hb)).symm,rfl⟩
   ·go_wp2_with ((go_at_call 93;refine(Fl _ _).mono ?_;rintro e w' ⟨rfl,rfl⟩))
    go_round
    case rel=>exact⟨k+1,by omega,by go_num,by rw[uA l k cj,HK.out];simpa [cj] using hb⟩
    case measure=>simp[intOf];omega
  ·go_wp2
   go_ret
   exact⟨zc7 (by rw[<-HK.out,bq (by omega)]),rfl⟩
theorem rC(room:Int)(v:aj)(l:List Int)(w:ai)(hv:pK w v l)(hl:l.length<=1099511627776):
  fV al.prog 211 #[.agg #[.int .i64 room,v]] w λ e w'=>e=.returned (.bool (kB room l))/\cE w.heap.size w w':=by
 have hb:=zFR w (.cells #[.int .i64 room,v] 182)
 have hv2:=hv.below hb
 obtain⟨a,cap,rfl,_⟩:=hv.form
 have HB:=hid hb
 have HV:=hid hv2
 clear hb hv2 hv
 by_cases h1:1<=room<;>by_cases h2:room<=16<;>by_cases h3:(l.length:Int)<=room
 all_goals try (exfalso;omega)
 all_goals
  go_enter al.func211,Tryz.ntmps211
  go_wp2_with ((go_at_call 58;refine(Xj _ l _ HV.out hl).mono ?_;rintro e w' ⟨rfl,rfl⟩))
  go_ret
  exact⟨zc7 (by first|(simp[kB,h1,h2,h3];done)|(simp[kB];intros;omega)),HB.out⟩
def Ring(w:ai)(r:Nat)(room:Nat)(l:List Int):Prop:=∃(cs:Array aj) (first:Nat),w.heap[r]?=ab (.cells cs 281 (0,0))/\cs.size=19/\cs[16]?=ab (.int .i64 room)/\
 cs[17]?=ab (.int .i64 first)/\cs[18]?=ab (.int .i64 l.length)/\first<room/\l.length<=room/\room<=16/\(∀i,i<l.length->cs[(first+i) % room]?=ab (.int .i64 (l.getD i 0)))/\∀j,j<16->∃x,cs[j]?=ab (.int .i64 x)
variable{room:Nat}{l:List Int}
theorem zjj{cs:Array aj}{first:Nat}{b:Int}(hs:cs.size=19)(h0:cs[16]?=ab (.int .i64 room))(h1:cs[17]?=ab (.int .i64 first))(hf:first<room)(hl:l.length<room)(hr:room<=16)
  (hc:∀i,i<l.length->cs[(first+i) % room]?=ab (.int .i64 (l.getD i 0))) (hj:∀j,j<16->∃x,cs[j]?=ab (.int .i64 x)):
  let kT:=(cs.setIfInBounds ((first+l.length) % room) (.int .i64 b)).setIfInBounds 18 (.int .i64 ((l.length:Int)+1))
  kT.size=19/\kT[16]?=ab (.int .i64 room)/\kT[17]?=ab (.int .i64 first)/\kT[18]?=ab (.int .i64 ((l++[b]).length:Nat))/\
   (∀i,i<(l++[b]).length->kT[(first+i) % room]?=ab (.int .i64 ((l++[b]).getD i 0)))/\∀j,j<16->∃x,kT[j]?=ab (.int .i64 x):=by
 have hm:(first+l.length) % room<room:=nD _ (by omega)
 intro kT
 have get:∀j,kT[j]?=if j=18 then ab (.int .i64 ((l.length:Int)+1)) else if j=(first+l.length) % room then ab (.int .i64 b) else cs[j]?:=by
  intro j
  simp only[kT,bC,wX,hs]
  by_cases h18:18=j
  ·subst h18;simp
  ·rw[if_neg h18,if_neg (by omega:¬j=18)]
   by_cases hq:(first+l.length) % room=j
   ·rw[if_pos hq,if_pos hq.symm,if_pos (by omega)]
   ·rw[if_neg hq,if_neg (by omega)]
 refine⟨by simp[kT,hs],?_,?_,?_,?_,?_⟩
 ·rw[get,if_neg (by omega),if_neg (by omega)];exact h0
 ·rw[get,if_neg (by omega),if_neg (by omega)];exact h1
 ·rw[get,if_pos rfl];simp
 ·intro i hi
  have hmi:(first+i) % room<room:=nD _ (by omega)
  rw[get,if_neg (by omega)]
  simp only[dp,bP,List.length_nil] at hi
  by_cases hil:i=l.length
  ·subst hil
   rw[if_pos rfl]
   simp[my]
  ·have fh:(first+i) % room≠(first+l.length) % room:=by
    intro e
    have h1:=Nat.mod_add_div (first+i) room
    have h2:=Nat.mod_add_div (first+l.length) room
    rw[e] at h1
    rcases Nat.lt_trichotomy ((first+i)/room) ((first+l.length)/room) with h|h|h
    ·have:=og room (show (first+i)/room+1<=(first+l.length)/room by omega)
     rw[Nat.mul_add] at this;omega
    ·rw[h] at h1;omega
    ·have:=og room (show (first+l.length)/room+1<=(first+i)/room by omega)
     rw[Nat.mul_add] at this;omega
   rw[if_neg fh,hc i (by omega)]
   simp[my,List.getElem?_append_left (show i<l.length by omega)]
 ·intro j hj'
  rw[get,if_neg (by omega)]
  split
  ·exact⟨_,rfl⟩
  ·exact hj j hj'
theorem Zx(r room:Nat)(l:List Int)(b:Int)(w:ai)(h:Ring w r room l)(hl:l.length<room):
  fV al.prog 243 #[.pointer (ab ⟨r,0,ak⟩),.int .i64 b] w λ e w'=>e=.returned (.bool ae)/\Ring w' r room (l++[b])/\w.grownBy w' (ab r):=by
 obtain⟨cs,first,hb,hs,h16,h17,h18,hf,hle,hr,hc,hj⟩:=h
 have RS:=hid (zjj (b:=b) hs h16 h17 hf hl hr hc hj)
 obtain⟨x,hx⟩:=hj ((first+l.length) % room) (by have:=nD (first+l.length) (show 0<room by omega);omega)
 have hm:(first+l.length) % room<room:=nD _ (by omega)
 have hm2:((first:Int)+(l.length:Int)) % (room:Int)=(((first+l.length) % room:Nat):Int):=by simp
 have hm':((first:Int)+(l.length:Int)) % (room:Int)<16:=by omega
 clear hm2
 have hm0:0<=((first:Int)+(l.length:Int)) % (room:Int):=jq _ (by omega)
 obtain⟨c0,f0⟩:=blk hb
 have HB:=hid hb
 have HS:=hid hs
 clear hc hj hb hs
 go_enter al.func243,Tryz.ntmps243
 go_wp2
 refine jL (λ _=>True) (.op 0 0 (.op 1 0 (.op 2 0 (.op 3 0 (.op 4 0 (.op 5 0 (.op 6 0 (.op 7 0 (.op 8 0 (.nil)))))))))) gK rfl gK gK gK (λ _ _ d _ _ h=>by cases d<;>exact h) ?_
 go_wp2_with (first
  |(refine nz (by rfl) (by rfl) (by rfl) (by rfl) ?_;intro K hK)
  |(refine lz (by rfl) (by rfl) (by rfl) gK ?_;intro K hK)
  |(refine nt (k:=.i64) (by rfl) (by rfl) (by rfl) (by rfl) gK ?_;intro K hK)
  |(refine nv (by rfl) (by rfl) (by rfl) (by rfl) (by first|trivial|(simp;done)|(simp;omega)|omega) (by first|(simp[*];done)|go_simp) ?_;intro K hK)
  |(refine nu (by rfl) (by rfl) ?_;intro K hK)
  |(refine ny (by rfl) (by rfl) ?_)
  |(refine pU ?_))
 refine jL (λ _=>True) (.op 0 0 (.op 1 0 (.op 2 0 (.op 3 0 (.op 4 0 (.op 5 0 (.op 6 0 (.op 7 0 (.op 8 0 (.op 9 0 (.op 10 0 (.op 11 0 (.op 12 0 (.op 13 0 (.op 14 0 (.op 15 0 (.op 16 0 (.op 17 0 (.op 18 0 (.op 19 2 (.nil))))))))))))))))))))) gK rfl gK gK gK (λ _ _ d _ _ h=>by cases d<;>exact h) ?_
 go_wp2_with (first
  |(refine nz (by rfl) (by rfl) (by rfl) (by rfl) ?_;intro K hK)
  |(refine lz (by rfl) (by rfl) (by rfl) gK ?_;intro K hK)
  |(refine nt (k:=.i64) (by rfl) (by rfl) (by rfl) (by rfl) gK ?_;intro K hK)
  |(refine nv (by rfl) (by rfl) (by rfl) (by rfl) (by first|trivial|(simp;done)|(simp;omega)|omega) (by first|(simp[*];done)|go_simp) ?_;intro K hK)
  |(refine nu (by rfl) (by rfl) ?_;intro K hK)
  |(refine ny (by rfl) (by rfl) ?_)
  |(refine pU ?_))
 go_ret
 obtain⟨r1,r2,r3,r4,r5,r6⟩:=RS.out
 exact⟨rfl,⟨_,first,ml (ml HB.out),r1,r2,r3,r4,hf,by simp;omega,hr,r5,r6⟩,(by repeat (first|exact Qo _ _|refine Qm ?_|refine U8 ?_ _))⟩
theorem zi9(r room:Nat)(l:List Int)(b:Int)(w:ai)(h:Ring w r room l)(hl:l.length=room):
  fV al.prog 243 #[.pointer (ab ⟨r,0,ak⟩),.int .i64 b] w λ e w'=>e=.returned (.bool aa)/\∃n,w'=w.drewN n:=by
 obtain⟨cs,first,hb,hs,h16,h17,h18,hf,hle,hr,hc,hj⟩:=h
 obtain⟨c0,f0⟩:=blk hb
 subst hl
 clear hc hj hb hs
 go_enter al.func243,Tryz.ntmps243
 go_wp2
 refine jL (λ _=>True) (.op 0 0 (.op 1 0 (.op 2 0 (.op 3 0 (.op 4 0 (.op 5 0 (.op 6 0 (.op 7 0 (.op 8 0 (.nil)))))))))) gK rfl gK gK gK (λ _ _ d _ _ h=>by cases d<;>exact h) ?_
 go_wp2_with (first
  |(refine nz (by rfl) (by rfl) (by rfl) (by rfl) ?_;intro K hK)
  |(refine lz (by rfl) (by rfl) (by rfl) gK ?_;intro K hK)
  |(refine nt (k:=.i64) (by rfl) (by rfl) (by rfl) (by rfl) gK ?_;intro K hK)
  |(refine nv (by rfl) (by rfl) (by rfl) (by rfl) (by first|trivial|(simp;done)|(simp;omega)|omega) (by first|(simp[*];done)|go_simp) ?_;intro K hK)
  |(refine nu (by rfl) (by rfl) ?_;intro K hK)
  |(refine ny (by rfl) (by rfl) ?_)
  |(refine pU ?_))
 go_ret
 exact⟨rfl,1,rfl⟩
theorem Ring.below{w w':ai}{r:Nat}(h:Ring w r room l)(hb:cE w.heap.size w w'):Ring w' r room l:=by
 obtain⟨cs,first,h1,h2⟩:=h
 exact⟨cs,first,aK hb (ah.1 h1).1 h1,h2⟩
theorem Fs(room:Nat)(v:aj)(l:List Int)(w:ai)(hv:pK w v l)(h1:1<=room)(h2:room<=16)(hl:l.length<=room):
  fV al.prog 212 #[.agg #[.int .i64 room,v]] w λ e w'=>∃r,e=.returned (.pointer (ab ⟨r,0,ak⟩))/\w.heap.size<=r/\Ring w' r room l/\cE w.heap.size w w':=by
 obtain⟨a,cap,rfl,hc⟩:=hv.form
 have HV:=hid hv
 have HC:Hid (∀k,k<l.length->∀w1,cE w.heap.size w w1->∃g off,a=ab ⟨g,off,ak⟩/\w1.cell? ⟨g,off+k,ak⟩=ab (.int .i64 (l.getD k 0))):=λ k hk w1 hb=>by
  obtain⟨a',V2,he,hc'⟩:=(hv.below hb).form
  simp only[b9,true_and] at he
  obtain⟨rfl,rfl⟩:=he
  exact hc' k hk
 clear hv hc
 go_enter al.func212,Tryz.ntmps212
 go_wp2
 go_loopw [13] (λ i wr=>∃k:Nat,k<=l.length/\i=.int .i64 k/\Ring wr (w.heap.size+1) room (l.take k)/\cE w.heap.size w wr) (λ i _=>l.length-(intOf i).toNat)
 case atStart=>
  refine⟨0,bw _,rfl,⟨_,0,oD (by simp),by simp,rfl,rfl,rfl,by omega,by simp,h2,by simp,?_⟩,kM _ _ _⟩
  intro j hj
  have:j=0\/j=1\/j=2\/j=3\/j=4\/j=5\/j=6\/j=7\/j=8\/j=9\/j=10\/j=11\/j=12\/j=13\/j=14\/j=15:=by omega
  rcases this with rfl|rfl|rfl|rfl|rfl|rfl|rfl|rfl|rfl|rfl|rfl|rfl|rfl|rfl|rfl|rfl<;>exact⟨0,rfl⟩
 case round=>
  obtain⟨k,hk,rfl,pn,hB⟩:=hrel
  have HR:=hid pn
  have hB':=hid hB
  clear pn
  by_cases cj:k<l.length
  ·obtain⟨g,off,rfl,hcell⟩:=HC.out k cj _ hB
   clear hB
   go_wp2_with (go_at_call 243;refine(Zx _ _ _ _ _ HR.out (by simp;omega)).mono ?_;rintro e w2 ⟨rfl,zrP,hg⟩)
   go_roundw
   case rel=>
    refine⟨k+1,by omega,by go_num,?_,uB hB'.out hg (by have:=hB'.out.size;omega) (by omega)⟩
    rw[dO,aW cj]
    exact zrP
   case measure=>simp[intOf];omega
  ·clear hB
   go_wp2
   go_ret
   have pn:=HR.out
   rw[bq (by omega)] at pn
   exact⟨_,rfl,by omega,pn,hB'.out⟩
theorem ze1{cs:Array aj}{first:Nat}{x:Int}(hs:cs.size=19)(h0:cs[16]?=ab (.int .i64 room))(hf:first<room)(hr:room<=16)
  (hc:∀i,i<(x::l).length->cs[(first+i) % room]?=ab (.int .i64 ((x::l).getD i 0))) (hj:∀j,j<16->∃x,cs[j]?=ab (.int .i64 x)):
  let kT:=(cs.setIfInBounds 17 (.int .i64 (((first:Int)+1) % room))).setIfInBounds 18 (.int .i64 (l.length:Int))
  kT.size=19/\kT[16]?=ab (.int .i64 room)/\kT[17]?=ab (.int .i64 (((first+1) % room:Nat):Int))/\kT[18]?=ab (.int .i64 (l.length:Nat))/\
   (∀i,i<l.length->kT[((first+1) % room+i) % room]?=ab (.int .i64 (l.getD i 0)))/\∀j,j<16->∃x,kT[j]?=ab (.int .i64 x):=by
 intro kT
 have get:∀j,kT[j]?=if j=18 then ab (.int .i64 (l.length:Int)) else if j=17 then ab (.int .i64 (((first:Int)+1) % room)) else cs[j]?:=by
  intro j
  simp only[kT,bC,wX,hs]
  by_cases h18:18=j
  ·subst h18;simp
  ·rw[if_neg h18,if_neg (by omega:¬j=18)]
   by_cases hq:17=j
   ·subst hq;simp
   ·rw[if_neg hq,if_neg (by omega)]
 refine⟨by simp[kT,hs],?_,?_,?_,?_,?_⟩
 ·rw[get,if_neg (by omega),if_neg (by omega)];exact h0
 ·rw[get,if_neg (by omega),if_pos rfl];simp
 ·rw[get,if_pos rfl]
 ·intro i hi
  have hmi:((first+1) % room+i) % room<room:=nD _ (by omega)
  rw[get,if_neg (by omega),if_neg (by omega),Nat.mod_add_mod,gT,Nat.add_comm 1 i,hc (i+1) (by simp;omega)]
  simp
 ·intro j hj'
  rw[get,if_neg (by omega),if_neg (by omega)]
  exact hj j hj'
theorem take_cons(r room:Nat)(x:Int)(l:List Int)(w:ai)(h:Ring w r room (x::l)):
  fV al.prog 213 #[.pointer (ab ⟨r,0,ak⟩)] w λ e w'=>e=.returned (.tuple #[.int .i64 x,.bool ae])/\Ring w' r room l/\w.grownBy w' (ab r):=by
 obtain⟨cs,first,hb,hs,h16,h17,h18,hf,hle,hr,hc,hj⟩:=h
 have RS:=hid (ze1 hs h16 hf hr hc hj)
 have hx:=hc 0 (by simp)
 simp only[ey,xT hf,List.getD_cons_zero] at hx
 simp only[bP] at h18 hle
 have hm0:0<=((first:Int)+1) % (room:Int):=jq _ (by omega)
 obtain⟨c0,f0⟩:=blk hb
 have HB:=hid hb
 have X5:((l.length:Int)+1 == 0)=aa:=by rw[beq_eq_false_iff_ne];omega
 clear hc hj hb hs
 have zDU:cs[18]?=ab (.int .i64 ((l.length:Int)+1)):=by rw[h18];simp
 clear h18
 go_enter al.func213,Tryz.ntmps213
 go_wp2
 refine jL (λ _=>True) (.op 0 0 (.op 1 0 (.op 2 0 (.op 3 0 (.op 4 0 (.op 5 0 (.op 6 0 (.op 7 0 (.op 8 0 (.op 9 2 (.nil))))))))))) gK rfl gK gK gK (λ _ _ d _ _ h=>by cases d<;>exact h) ?_
 go_wp2_with (first
  |(refine nz (by rfl) (by rfl) (by rfl) (by rfl) ?_;intro K hK)
  |(refine lz (by rfl) (by rfl) (by rfl) gK ?_;intro K hK)
  |(refine nt (k:=.i64) (by rfl) (by rfl) (by rfl) (by rfl) gK ?_;intro K hK)
  |(refine nv (by rfl) (by rfl) (by rfl) (by rfl) (by first|trivial|(simp;done)|(simp;omega)|omega) (by first|(simp[*];done)|go_simp) ?_;intro K hK)
  |(refine nu (by rfl) (by rfl) ?_;intro K hK)
  |(refine ny (by rfl) (by rfl) ?_)
  |(refine pU ?_))
 refine jL (λ _=>True) (.op 0 0 (.op 1 0 (.op 2 0 (.op 3 0 (.op 4 0 (.op 5 0 (.op 6 0 (.op 7 0 (.op 8 0 (.op 9 0 (.op 10 0 (.op 11 0 (.op 12 0 (.op 13 2 (.nil))))))))))))))) gK rfl gK gK gK (λ _ _ d _ _ h=>by cases d<;>exact h) ?_
 go_wp2_with (first
  |(refine nz (by rfl) (by rfl) (by rfl) (by rfl) ?_;intro K hK)
  |(refine lz (by rfl) (by rfl) (by rfl) gK ?_;intro K hK)
  |(refine nt (k:=.i64) (by rfl) (by rfl) (by rfl) (by rfl) gK ?_;intro K hK)
  |(refine nv (by rfl) (by rfl) (by rfl) (by rfl) (by first|trivial|(simp;done)|(simp;omega)|omega) (by first|(simp[*];done)|go_simp) ?_;intro K hK)
  |(refine nu (by rfl) (by rfl) ?_;intro K hK)
  |(refine ny (by rfl) (by rfl) ?_)
  |(refine pU ?_))
 go_ret2
 obtain⟨r1,r2,r3,r4,r5,r6⟩:=RS.out
 exact⟨rfl,⟨_,(first+1) % room,ml (ml HB.out),r1,r2,r3,r4,nD _ (by omega),by omega,hr,r5,r6⟩,(by repeat (first|exact Qo _ _|refine Qm ?_|refine U8 ?_ _))⟩
theorem take_nil(r room:Nat)(w:ai)(h:Ring w r room []):
  fV al.prog 213 #[.pointer (ab ⟨r,0,ak⟩)] w λ e w'=>e=.returned (.tuple #[.int .i64 0,.bool aa])/\w=w':=by
 obtain⟨cs,first,hb,hs,h16,h17,h18,hf,hle,hr,hc,hj⟩:=h
 obtain⟨c0,f0⟩:=blk hb
 clear hc hj hb hs
 go_enter al.func213,Tryz.ntmps213
 go_wp2
 go_ret2
 exact⟨rfl,rfl⟩
theorem zff(l:List Int)(k:Nat)(h:k<l.length):l.take (k+1)=l.take k++[l[k]]:=by rw[dO,aW h];rfl
theorem Ze(r room:Nat)(l:List Int)(w:ai)(h:Ring w r room l):
  fV al.prog 214 #[.pointer (ab ⟨r,0,ak⟩)] w λ e w'=>∃a c,e=.returned (.agg #[.int .i64 room,.slice a l.length c])/\jv w' w.heap.size (.slice a l.length c) l/\cE w.heap.size w w':=by
 obtain⟨cs,first,hb,hs,h16,h17,h18,hf,hle,hr,hc,hj⟩:=h
 have zuG:=(ah.1 hb).1
 obtain⟨c0,f0⟩:=blk hb
 have HB:=hid hb
 have HC:=hid hc
 clear hc hj hb hs
 go_enter al.func214,Tryz.ntmps214
 go_wp2_with (refine Lz rfl (.tmp 8) rfl l.length rfl (by omega) (w.heap.size+1) (by simp) ?_;intro w1 dY hg;obtain⟨c2,f2⟩:=blk (aK hg (by simp;omega) (bY HB.out)))
 have k1:=hid (aK hg (by simp) (oD (w:=w) rfl))
 have HR:=hid (aK hg (by simp;omega) (bY HB.out))
 have hB:=hid (zFP (zFR w _) hg)
 have zvI:jv w1 (w.heap.size+1) (.slice (ab ⟨w.heap.size+1,0,ak⟩) 0 l.length) []:=by simpa using dY
 clear hg dY c2 f2
 go_loopw [3,14] (λ v i wr=>∃(k:Nat) (a:Option Addr) (c:Nat),k<=l.length/\i=.int .i64 k/\v=.slice a k c/\jv wr (w.heap.size+1) (.slice a k c) (l.take k)/\cE w.heap.size w wr/\
   wr.heap[w.heap.size]?=ab (.cells #[.int .i64 0,.slice ak 0 0] 182 (0,0))) (λ _ i _=>l.length-(intOf i).toNat)
 case atStart=>exact⟨0,_,_,bw _,rfl,rfl,zvI,hB.out,k1.out⟩
 case round=>
  obtain⟨k,a,c,hk,rfl,rfl,dY,hB,k1⟩:=hrel
  have hbr:=aK hB zuG HB.out
  obtain⟨c2,f2⟩:=blk hbr
  have HO:=hid dY
  have HB1:=hid hB
  have K1:=hid k1
  have hz:=hB.size
  have OE:=(ah.1 k1).1
  clear dY hB k1 hbr
  by_cases cj:k<l.length
  ·have hx:=HC.out k cj
   have hm0:0<=((first:Int)+(k:Int)) % (room:Int):=jq _ (by omega)
   have hm:(first+k) % room<room:=nD _ (by omega)
   have hm2:((first:Int)+(k:Int)) % (room:Int)=(((first+k) % room:Nat):Int):=by simp
   have hm':((first:Int)+(k:Int)) % (room:Int)<16:=by omega
   clear hm2
   go_wp2_with fail
   refine jL (λ b=>b=r) (.op 0 0 (.op 1 0 (.op 2 0 (.op 3 0 (.op 4 0 (.op 5 0 (.op 6 0 (.op 7 0 (.op 8 0 (.op 9 0 (.op 10 0 (.op 11 0 (.op 12 0 (.op 13 0 (.op 14 0 (.op 15 0 (.op 16 0 (.op 17 1 (.op 18 1 (.op 19 2 (.nil))))))))))))))))))))) gK rfl gK gK gK (λ _ _ d _ _ h=>by cases d<;>exact h) ?_
   go_wp2_with (first
  |(refine nz (by rfl) (by rfl) (by rfl) (by rfl) ?_;intro K hK)
  |(refine lz (by rfl) (by rfl) (by rfl) gK ?_;intro K hK)
  |(refine nt (k:=.i64) (by rfl) (by rfl) (by rfl) (by rfl) gK ?_;intro K hK)
  |(refine nv (by rfl) (by rfl) (by rfl) (by rfl) (by first|trivial|(simp;done)|(simp;omega)|omega) (by first|(simp[*];done)|go_simp) ?_;intro K hK)
  |(refine nu (by rfl) (by rfl) ?_;intro K hK)
  |(refine ny (by rfl) (by rfl) ?_)
  |(refine pU ?_))
   refine Xb (by rfl) (by rfl) ?_;intro K hK;go_wp2_with fail;refine⟨(by first|exact Ex.alloc _ _ _|exact(Ex.alloc _ _ _).drew),?_⟩
   refine Xb (by rfl) (by rfl) ?_;intro K hK
   have hlen:(l.take k++[l[k]]).length=k+1:=by simp;omega
   have Aq:∀j,(dj a k c).ownBlock=ab j->w.heap.size+1<=j:=λ j hj=>(HO.out.lt j hj).1
   refine Sp (.tmp 17) (.tmp 34) rfl (w.heap.size+1) (.slice a k c) (l.take k) rfl (HO.out.alloc _) _ [l[k]] rfl (pK.zzz wr _) (by simp;omega) gO ?_
   intro a2 c2 w2 GI hg2 _
   rw[hlen] at GI ⊢
   refine hK _ _ ⟨Ex.grown hg2 (λ j hj _ e=>by have:=Aq j hj;omega),?_⟩
   have K2:=hid (ug hg2 (λ e=>by have:=Aq _ e.symm;omega) (bY K1.out))
   have HB2:=hid ((HB1.out.alloc (by omega) (.cells #[.int .i64 l[k]] 3)).drew.grown hg2 (by simp;omega) (λ j hj=>by have:=Aq j hj;omega))
   have HO2:=hid GI
   clear Aq GI hg2 hlen
   go_wp2_with (first
  |(refine nz (by rfl) (by rfl) (by rfl) (by rfl) ?_;intro K hK)
  |(refine lz (by rfl) (by rfl) (by rfl) gK ?_;intro K hK)
  |(refine nt (k:=.i64) (by rfl) (by rfl) (by rfl) (by rfl) gK ?_;intro K hK)
  |(refine nv (by rfl) (by rfl) (by rfl) (by rfl) (by first|trivial|(simp;done)|(simp;omega)|omega) (by first|(simp[*];done)|go_simp) ?_;intro K hK)
  |(refine nu (by rfl) (by rfl) ?_;intro K hK)
  |(refine ny (by rfl) (by rfl) ?_)
  |(refine pU ?_))
   go_roundw
   case rel=>exact⟨k+1,a2,c2,by omega,by go_num,rfl,by rw[zff l k cj];exact HO2.out,HB2.out,K2.out⟩
   case measure=>simp[intOf];omega
  ·obtain rfl:k=l.length:=by omega
   obtain⟨c3,f3⟩:=blk K1.out
   have dY:=HO.out
   rw[xR] at dY
   replace dY:=hid dY
   go_wp2
   exact dW (v:=.agg #[.int .i64 room,.slice a l.length c]) (by simp[results,Tryz.results214,go_sem,c3]) rfl ⟨_,_,rfl,jv.base (jv.set (jv.set dY.out (by simp) _) (by simp) _) (by omega),(by repeat (first|(with_reducible exact dU (by assumption))|(with_reducible assumption)|(with_reducible exact bO _ _)|(with_reducible refine eL ?_ gO _)|(with_reducible refine dB ?_ gO _)|(with_reducible refine fZ ?_)|(with_reducible refine below_drewN ?_ _)|exact bO _ _|assumption|exact dU (by assumption)))⟩
theorem Fj{room:Int}(h:kB room l=ae):∃n:Nat,room=(n:Int)/\1<=n/\n<=16/\l.length<=n/\ko l=ae:=by
 simp only[kB,aE,decide_eq_true_eq] at h
 obtain⟨⟨⟨h1,h2⟩,h3⟩,h4⟩:=h
 exact⟨room.toNat,by omega,by omega,by omega,by omega,h4⟩
theorem SX(room:Int)(v:aj)(x:Int)(l:List Int)(w:ai)(hv:pK w v (x::l))(fc:kB room (x::l)=ae):
  fV al.prog 144 #[.agg #[.int .i64 room,v]] w λ e w'=>∃a c,e=.returned (.tuple #[.agg #[.int .i64 room,.slice a l.length c],.int .i64 x,.bool ae])/\cE w.heap.size w w'/\jv w' w.heap.size (.slice a l.length c) l:=by
 have VK:=hid fc
 obtain⟨n,rfl,h1,h2,h3,-⟩:=Fj fc
 obtain⟨a,cap,rfl,-⟩:=hv.form
 have HV:=hid hv
 clear hv fc
 go_enter al.func144,Tryz.ntmps144
 go_wp2_with fail
 refine(rC _ _ _ _ (HV.out.below (kM _ _ _)) (by omega)).mono ?_
 rintro e w1 ⟨rfl,sS⟩
 rw[VK.out]
 obtain⟨k0,k1,Sw,hB⟩:=Ps sS
 have HI:=hid (HV.out.below hB)
 obtain⟨c0,f0⟩:=blk k0;replace k0:=hid k0
 replace k1:=hid k1
 replace hB:=hid hB
 clear sS
 go_wp2_with fail
 refine(Fs n _ (x::l) _ HI.out h1 h2 h3).mono ?_
 rintro e w2 ⟨r,rfl,hr,pn,kU⟩
 have HR:=hid pn
 first|(replace k1:=hid (aK kU gO k1.out))|(replace k1:=hid (aK kU gO (bY k1.out)))
 replace hB:=hid (zFP hB.out kU)
 clear pn kU c0 f0 k0
 go_wp2_with fail
 refine(take_cons r n x l _ HR.out).mono ?_
 rintro e w3 ⟨rfl,pn,hg⟩
 have HR:=hid pn
 first|(replace k1:=hid (ug hg gO k1.out))|(replace k1:=hid (ug hg gO (bY k1.out)))
 replace hB:=hid (uB hB.out hg (by have:=hB.out.size;omega) (by omega))
 clear pn hg
 go_wp2_with fail
 refine(Ze r n l _ HR.out).mono ?_
 rintro e w4 ⟨a4,c4,rfl,dY,AH⟩
 have cj:=(ah.1 k1.out).1
 first|(replace k1:=hid (aK AH gO k1.out))|(replace k1:=hid (aK AH gO (bY k1.out)))
 replace hB:=hid (zFP hB.out AH)
 have HO:=hid dY
 clear dY AH
 obtain⟨c1,f1⟩:=blk k1.out;have z1:=(ah.1 k1.out).1
 go_wp2
 exact dW (v:=.tuple #[.agg #[.int .i64 n,.slice a4 l.length c4],.int .i64 x,.bool ae]) (by simp[results,Tryz.results144,go_sem,c1]) rfl ⟨_,_,rfl,(by repeat (first|(with_reducible exact dU (by assumption))|(with_reducible assumption)|(with_reducible exact bO _ _)|(with_reducible refine eL ?_ gO _)|(with_reducible refine dB ?_ gO _)|(with_reducible refine fZ ?_)|(with_reducible refine below_drewN ?_ _)|exact bO _ _|assumption|exact dU (by assumption))),jv.base (jv.set (jv.set HO.out (by simp;omega) _) (by simp;omega) _) (by omega)⟩
theorem Xc(room:Int)(v:aj)(l:List Int)(w:ai)(hv:pK w v l)(hl:l.length<=1099511627776)(fc:kB room l=aa):
  fV al.prog 144 #[.agg #[.int .i64 room,v]] w λ e w'=>e=.returned (.tuple #[.agg #[.int .i64 0,.slice ak 0 0],.int .i64 0,.bool aa])/\cE w.heap.size w w':=by
 have VK:=hid fc
 obtain⟨a,cap,rfl,-⟩:=hv.form
 have HV:=hid hv
 clear hv fc
 go_enter al.func144,Tryz.ntmps144
 go_wp2_with fail
 refine(rC _ _ _ _ (HV.out.below (kM _ _ _)) hl).mono ?_
 rintro e w1 ⟨rfl,sS⟩
 rw[VK.out]
 obtain⟨k0,k1,Sw,hB⟩:=Ps sS
 obtain⟨c1,f1⟩:=blk k1;replace k1:=hid k1
 replace hB:=hid hB
 clear sS
 go_wp2
 exact dW (v:=.tuple #[.agg #[.int .i64 0,.slice ak 0 0],.int .i64 0,.bool aa]) (by simp[results,Tryz.results144,go_sem,c1]) rfl ⟨rfl,(by repeat (first|(with_reducible exact dU (by assumption))|(with_reducible assumption)|(with_reducible exact bO _ _)|(with_reducible refine eL ?_ gO _)|(with_reducible refine dB ?_ gO _)|(with_reducible refine fZ ?_)|(with_reducible refine below_drewN ?_ _)|exact bO _ _|assumption|exact dU (by assumption)))⟩
theorem Xd(room:Int)(v:aj)(w:ai)(hv:pK w v [])(fc:kB room []=ae):
  fV al.prog 144 #[.agg #[.int .i64 room,v]] w λ e w'=>e=.returned (.tuple #[.agg #[.int .i64 0,.slice ak 0 0],.int .i64 0,.bool aa])/\cE w.heap.size w w':=by
 have VK:=hid fc
 obtain⟨n,rfl,h1,h2,h3,-⟩:=Fj fc
 obtain⟨a,cap,rfl⟩:=hv.nil
 have HV:=hid hv
 clear hv fc
 go_enter al.func144,Tryz.ntmps144
 go_wp2_with fail
 refine(rC _ _ [] _ (HV.out.below (kM _ _ _)) (by simp)).mono ?_
 rintro e w1 ⟨rfl,sS⟩
 rw[VK.out]
 obtain⟨k0,k1,Sw,hB⟩:=Ps sS
 have HI:=hid (HV.out.below hB)
 obtain⟨c0,f0⟩:=blk k0;replace k0:=hid k0
 replace k1:=hid k1
 replace hB:=hid hB
 clear sS
 go_wp2_with fail
 refine(Fs n _ [] _ HI.out h1 h2 h3).mono ?_
 rintro e w2 ⟨r,rfl,hr,pn,kU⟩
 have HR:=hid pn
 first|(replace k1:=hid (aK kU gO k1.out))|(replace k1:=hid (aK kU gO (bY k1.out)))
 replace hB:=hid (zFP hB.out kU)
 clear pn kU c0 f0 k0
 go_wp2_with fail
 refine(take_nil r n _ HR.out).mono ?_
 rintro e w3 ⟨rfl,rfl⟩
 obtain⟨c1,f1⟩:=blk k1.out;have z1:=(ah.1 k1.out).1
 go_wp2
 exact dW (v:=.tuple #[.agg #[.int .i64 0,.slice ak 0 0],.int .i64 0,.bool aa]) (by simp[results,Tryz.results144,go_sem,c1]) rfl ⟨rfl,(by repeat (first|(with_reducible exact dU (by assumption))|(with_reducible assumption)|(with_reducible exact bO _ _)|(with_reducible refine eL ?_ gO _)|(with_reducible refine dB ?_ gO _)|(with_reducible refine fZ ?_)|(with_reducible refine below_drewN ?_ _)|exact bO _ _|assumption|exact dU (by assumption)))⟩
open Ab
theorem Q8:ji al.prog 144 [.inr [.int,.ints]] (λ⟨⟨r,l,_⟩,_⟩ K=>K (GQ r l).d):=by
 rintro⟨⟨r,l,_⟩,_⟩ K hK w vs hr hg
 replace hK:K (GQ r l).d:=hK
 obtain⟨v,rfl,hv,hl⟩:∃v,vs=#[.agg #[.int .i64 r,v]]/\pK w v l/\l.length<=1099511627776:=by
  cases yB:vs.toList with
  |nil=>rw[yB] at hr;exact hr.elim
  |cons a rest=>
   rw[yB] at hr
   obtain⟨⟨us,rfl,hu⟩,hr⟩:=hr
   cases rest with
   |cons _ _=>exact hr.elim
   |nil=>
    cases hus:us.toList with
    |nil=>rw[hus] at hu;exact hu.elim
    |cons b rest=>
     rw[hus] at hu
     cases rest with
     |nil=>exact hu.2.elim
     |cons v rest=>
      obtain⟨h1,⟨h2,h3⟩,h4⟩:=hu
      cases rest with
      |cons _ _=>exact h4.elim
      |nil=>
       have e1:us=#[.int .i64 r,v]:=bk.1 (by rw[hus];have:b=.int .i64 r:=h1;rw[this])
       exact⟨v,bk.1 (by rw[yB,e1]),h2,h3⟩
 have LL:∀(w':ai),cE w.heap.size w w'->GQ r l=⟨0,[],0,aa⟩->∃d v,oP (.tuple #[.agg #[.int .i64 0,.slice ak 0 0],.int .i64 0,.bool aa])=.returned v/\K d/\cE w.heap.size w w'/\∃bs,frV w' w.heap.size d v bs/\bs.Nodup:=by
  intro w' hb he
  rw[he] at hK
  exact⟨_,_,rfl,hK,hb,[],⟨_,rfl,[],[],rfl,⟨_,rfl,[],[],rfl,⟨rfl,rfl,rfl⟩,[],[],rfl,⟨World.ownsRow_nil _ _ _ _,bw _,rfl⟩,rfl⟩,[],[],rfl,⟨rfl,rfl,rfl⟩,[],[],rfl,⟨rfl,rfl,rfl⟩,rfl⟩,By⟩
 cases fc:kB r l with
 |false=>
  refine(Xc r v l w hv hl fc).mono ?_
  rintro e w' ⟨rfl,hb⟩
  exact LL w' hb (by simp[GQ,fc])
 |true=>
  cases l with
  |nil=>
   refine(Xd r v w hv fc).mono ?_
   rintro e w' ⟨rfl,hb⟩
   exact LL w' hb (by simp[GQ,fc])
  |cons x l=>
   refine(SX r v x l w hv fc).mono ?_
   rintro e w' ⟨a,c,rfl,hb,ho⟩
   have he:GQ r (x::l)=⟨r,l,x,ae⟩:=by simp[GQ,fc]
   rw[he] at hK
   refine⟨_,_,rfl,hK,hb,(dj a l.length c).ownBlock.toList,⟨_,rfl,(dj a l.length c).ownBlock.toList,[],(eO _).symm,⟨_,rfl,[],_,rfl,⟨rfl,rfl,rfl⟩,_,[],(eO _).symm,⟨ho,?_,rfl⟩,rfl⟩,[],[],rfl,⟨rfl,rfl,rfl⟩,[],[],rfl,⟨rfl,rfl,rfl⟩,rfl⟩,by cases (dj a l.length c).ownBlock<;>simp⟩
   simp at hl
   show l.length<=1099511627776
   omega
def Hx:CS:=dn [.inr [.int,.ints]] (λ⟨⟨r,l,_⟩,_⟩ K=>K (GQ r l).d)
theorem M1:bW al.prog 144 Hx:=bH Q8
def sx:Env:=[]
theorem yr:bg al.prog sx:=aC trivial
def ma:CS:=Jt jV sx ja Tryz.f145
theorem mP:bW al.prog 145 ma:=zhO aS aH yr (Rn.fM Tryz.func145) gK
def RX:Env:=[]
theorem I3:bg al.prog RX:=aC trivial
def Ii:DA [.inr [.int,.ints,.int,.int]]->(DV->Prop)->Prop:=λ⟨⟨r,l,s,f,_⟩,_⟩ K=>K (.a (yz.d ⟨r,l,s,f⟩))
theorem Rj:ji al.prog 143 [.inr [.int,.ints,.int,.int]] Ii:=by
 refine bh (TR:=ja) aS aH I3 (Rn.fM Tryz.func143) rfl ?_
 dsimp only[DA,HL,Sh.T]
 rintro⟨⟨r,l,s,f,_⟩,_⟩ K hK ⟨⟨_,hl,_⟩,_⟩
 dsimp only[Ii] at hK
 replace hl:=gl l hl
 repeat' (conv=>whnf);first|refine az.mk ?_ ?_;exact gS|refine End.mk ?_|apply gU;exact gA|refine gB ?_ ?_<;>intro hb h<;>try exact c8
 (refine gI hK ?_;repeat' first|exact gR|refine az.mk ?_ ?_)
 all_goals rfl
def zt:CS:=dn [.inr [.int,.ints,.int,.int]] Ii
theorem Aa:bW al.prog 143 zt:=bH Rj
def N3:Env:=[(145,ma),(211,D3),(93,y9)]
theorem FU:bg al.prog N3:=aC ⟨mP,Kf,wR,trivial⟩
def EC:DA [.inr [.int,.ints,.int,.int]]->(DV->Prop)->Prop:=λ⟨⟨r,l,s,f,_⟩,_⟩ K=>K (.l (.v (.bool (lK ⟨r,l,s,f⟩))))
theorem NB:ji al.prog 142 [.inr [.int,.ints,.int,.int]] EC:=by
 refine bh (TR:=ja) aS aH FU (Rn.fM Tryz.func142) rfl ?_
 dsimp only[DA,HL,Sh.T]
 rintro⟨⟨r,l,s,f,_⟩,_⟩ K hK ⟨⟨_,hl,_⟩,_⟩
 dsimp only[EC] at hK
 replace hl:=gl l hl
 repeat' (conv=>whnf);first|refine az.mk ?_ ?_;exact gS|refine End.mk ?_|apply gU;exact gA|refine gB ?_ ?_<;>intro hb h<;>try exact c8
 all_goals
  (refine gI hK ?_;repeat' first|exact gR|refine az.mk ?_ ?_)
  simp[lK, *]
def oI:CS:=dn [.inr [.int,.ints,.int,.int]] EC
theorem nV:bW al.prog 142 oI:=bH NB
def RP:Env:=[(142,oI),(143,zt),(145,ma),(144,Hx)]
theorem IW:bg al.prog RP:=aC ⟨nV,Aa,mP,M1,trivial⟩
def Ic:DA [.inr [.int,.ints,.int,.int]]->(DV->Prop)->Prop:=λ⟨⟨r,l,s,f,_⟩,_⟩ K=>K (lO ⟨r,l,s,f⟩).d
theorem Rf:ji al.prog 77 [.inr [.int,.ints,.int,.int]] Ic:=by
 refine bh (TR:=ja) aS aH IW (Rn.fM Tryz.func77) rfl ?_
 dsimp only[DA,HL,Sh.T]
 rintro⟨⟨r,l,s,f,_⟩,_⟩ K hK ⟨⟨_,hl,_⟩,_⟩
 dsimp only[Ic] at hK
 replace hl:=gl l hl
 refine fw (p:=lK ⟨r,l,s,f⟩=ae) (λ hv=>?_) (λ hv=>?_)
 ·have Uz:=kC hv
  dsimp only at Uz
  have fc:kB r l=ae:=by
   have h:=hv
   simp only[lK,aE] at h
   exact h.1
  repeat' (conv=>whnf);first|refine az.mk ?_ ?_;exact gS|refine End.mk ?_|apply gU;exact gA|refine gB ?_ ?_<;>intro hb h<;>try exact c8
  all_goals (refine gI hK ?_;repeat' first|exact gR|refine az.mk ?_ ?_)
  all_goals clear hK
  all_goals (by_cases hf:f=1<;>first|(exfalso;omega)|skip)
  all_goals (cases l<;>simp_all [lO,iu,zR,GQ,EL.len]<;>first|done|omega)
 ·replace hv:lK ⟨r,l,s,f⟩=aa:=by simpa using hv
  repeat' (conv=>whnf);first|refine az.mk ?_ ?_;exact gS|refine End.mk ?_|apply gU;exact gA|refine gB ?_ ?_<;>intro hb h<;>try exact c8
  (refine gI hK ?_;repeat' first|exact gR|refine az.mk ?_ ?_)
  all_goals first|exact rfl|simp[lO,hv,EL.len]
def HE:CS:=dn [.inr [.int,.ints,.int,.int]] Ic
theorem M7:bW al.prog 77 HE:=bH Rf
def Of:Env:=[(129,vH),(56,mj)]
theorem Ga:bg al.prog Of:=aC ⟨uF,iW,trivial⟩
def EN:DA [.inr [.int,.ints,.int,.int]]->(DV->Prop)->Prop:=λ⟨⟨r,l,s,f,_⟩,_⟩ K=>K (.l (.v (.bool (lK ⟨r,l,s,f⟩))))
theorem NM:ji al.prog 195 [.inr [.int,.ints,.int,.int]] EN:=by
 refine bh (TR:=ja) aS aH Ga (Rn.fM Tryz.func195) rfl ?_
 dsimp only[DA,HL,Sh.T]
 rintro⟨⟨r,l,s,f,_⟩,_⟩ K hK ⟨⟨_,hl,_⟩,_⟩
 dsimp only[EN] at hK
 replace hl:=gl l hl
 repeat' (conv=>whnf);first|refine az.mk ?_ ?_;exact gS|refine End.mk ?_|apply gU;exact gA|refine gB ?_ ?_<;>intro hb h<;>try exact c8
 all_goals
  (refine gI hK ?_;repeat' first|exact gR|refine az.mk ?_ ?_)
  simp_all [lK,kB,eF]
  try omega
def rE:CS:=dn [.inr [.int,.ints,.int,.int]] EN
theorem qZ:bW al.prog 195 rE:=bH NM
def KO:Env:=[(142,oI)]
theorem Dp:bg al.prog KO:=aC ⟨nV,trivial⟩
def BW:DA [.inr [.int,.ints,.int,.int]]->(DV->Prop)->Prop:=λ⟨⟨r,l,s,f,_⟩,_⟩ K=>K (.l (.v (.int .i64 (jw ⟨r,l,s,f⟩))))
theorem Kx:ji al.prog 162 [.inr [.int,.ints,.int,.int]] BW:=by
 refine bh (TR:=ja) aS aH Dp (Rn.fM Tryz.func162) rfl ?_
 dsimp only[DA,HL,Sh.T]
 rintro⟨⟨r,l,s,f,_⟩,_⟩ K hK ⟨⟨_,hl,_⟩,_⟩
 dsimp only[BW] at hK
 replace hl:=gl l hl
 repeat' (conv=>whnf);first|refine az.mk ?_ ?_;exact gS|refine End.mk ?_|apply gU;exact gA|refine gB ?_ ?_<;>intro hb h<;>try exact c8
 all_goals (refine gI hK ?_;repeat' first|exact gR|refine az.mk ?_ ?_)
 all_goals clear hK
 all_goals (simp_all [jw,EL.len]<;>first|done|omega)
def BE:CS:=dn [.inr [.int,.ints,.int,.int]] BW
theorem IA:bW al.prog 162 BE:=bH Kx
def TS:Env:=[]
theorem Lb:bg al.prog TS:=aC trivial
def XW:Nat->Tr:=λ n=>match n with
 |1=>.op 0 0 (.op 1 0 (.op 3 0 (.op 4 0 (.op 6 0 (.op 7 0 (.op 8 0 (.op 9 0 (.fork 2 1 (.fork 5 1 (.op 10 0 (.op 11 1 (.op 12 2 (.nil)))) 11 1 (.op 5 1 (.op 10 1 (.op 12 2 (.nil))))) 11 1 (.op 2 1 (.op 5 1 (.op 10 1 (.op 12 2 (.nil)))))))))))))
 |_=>.nil
def MF:DA [.inr [.int,.ints,.int,.int]]->(DV->Prop)->Prop:=λ⟨⟨r,l,s,f,_⟩,_⟩ K=>az (lK ⟨r,l,s,f⟩=ae) <| K (.t [.inr (iu ⟨r,l,s,f⟩).1.d,.inl (.v (.int .i64 (iu ⟨r,l,s,f⟩).2))])
theorem Tn:ji al.prog 130 [.inr [.int,.ints,.int,.int]] MF:=by
 refine bh (TR:=XW) aS aH Lb (Rn.fM Tryz.func130) rfl ?_
 dsimp only[DA,HL,Sh.T]
 rintro⟨⟨r,l,s,f,_⟩,_⟩ K ⟨hv,hK⟩ ⟨⟨_,hl,_⟩,_⟩
 replace hK:K (.t [.inr (iu ⟨r,l,s,f⟩).1.d,.inl (.v (.int .i64 (iu ⟨r,l,s,f⟩).2))]):=hK
 replace hl:=gl l hl
 have Uz:=kC hv
 dsimp only at Uz
 repeat' (conv=>whnf);first|refine az.mk ?_ ?_;exact gS|refine Fork.mk ?_ ?_;exact ER|refine End.mk ?_|apply gU;exact gA|refine gB ?_ ?_<;>intro hb h<;>try exact c8
 all_goals (refine gI hK ?_;repeat' first|exact gR|refine az.mk ?_ ?_)
 all_goals clear hK
 all_goals (by_cases hf:f=1<;>first|(exfalso;omega)|skip)
 all_goals (by_cases hs:s=-1<;>first|(exfalso;omega)|skip)
 all_goals (cases l<;>simp_all [iu,zR,EL.len]<;>first|done|omega)
def Ma:CS:=dn [.inr [.int,.ints,.int,.int]] MF
theorem QY:bW al.prog 130 Ma:=bH Tn
def T4:Env:=[(55,fK)]
theorem Ln:bg al.prog T4:=aC ⟨eh,trivial⟩
def XZ:Nat->Tr:=λ n=>match n with
 |6=>.op 0 0 (.op 1 0 (.op 2 1 (.op 3 1 (.op 4 1 (.op 5 1 (.op 6 1 (.op 7 2 (.nil))))))))
 |_=>.nil
theorem Tw:Gn al.prog 180 105 [] (λ p _ K=>az (0<=p/\p<=1000000) <| ∀(r:Int) (l:List Int) (s f p':Int),l.length<=100->p<=p'->p'<=p+100->K (.a (yz.d ⟨r,l,s,f⟩)) p'):=by
 refine np (TR:=XZ) aS aH Ln (Rn.fM Tryz.func180) rfl rfl ?_
 rintro v0 l (p:Int) _ K hl ⟨hp,hK⟩
 replace hl:=gl l hl
 repeat' (conv=>whnf);first|refine az.mk ?_ ?_;exact gS|refine End.mk ?_|apply gU;exact gA|refine gB ?_ ?_<;>intro hb h<;>try exact c8|refine λ(y:Int) (h0:0<=y) h1=>?_
 rename_i y1 h1a h1b
 have h2:y<=7:=by omega
 repeat' (conv=>whnf);first|refine az.mk ?_ ?_;exact gS|refine End.mk ?_|apply gU;exact gA|refine gB ?_ ?_<;>intro hb h<;>try exact c8|refine λ(y:Int) (h0:0<=y) h1=>?_
 refine iK.inv {t:Nat×List Int×Int // (t.1:Int)<=y/\t.2.1.length=t.1/\p+2<=t.2.2/\t.2.2<=p+2+t.1} (λ⟨(k,_,_),_⟩=>[(5,.l (.v (.int .i64 k))),(9,.j),(10,.j)]) (λ⟨(_,il,p'),_⟩=>[(0,.b [.fx v0 (.bytes l),.v (.int .i64 p')] 105),(2,.r 0 3 (.ints il))]) (λ⟨(k,_,_),_⟩=>y.toNat-k) ⟨(0,[],p+1+1),(show ((0:Nat):Int)<=y by omega),rfl,(show p+2<=p+1+1 by omega),(show p+1+1<=p+2+((0:Nat):Int) by omega)⟩ [0,1,2,3] ?_ ?_
 ·repeat' first|refine az.mk ?_ ?_;exact gV|exact aV
 rintro⟨⟨k,il,p'⟩,rJ,tl,X9,VT⟩
 have gk1:(k:Int)<=y:=rJ
 have gk2:il.length=k:=tl
 have gk3:p+2<=p':=X9
 have gk4:p'<=p+2+k:=VT
 repeat' (conv=>whnf);first|refine az.mk ?_ ?_;exact gS|refine End.mk ?_|apply gU;exact gA|refine gB ?_ ?_<;>intro hb h<;>try exact c8|refine λ(y:Int) (h0:0<=y) h1=>?_
 ·have e1:((k+1:Nat):Int)<=_:=h
  have e2:(il++[y]).length=k+1:=by rw[dp,gk2];rfl
  (refine ao ⟨(k+1,il++[y],p'+1),e1,e2,(show p+2<=p'+1 by omega),(show p'+1<=p+2+((k+1:Nat):Int) by omega)⟩ (ao [0,1,2,3] (aM ?_ ?_)))
  ·show dT _-(k+1)<dT _-k
   omega
  ·repeat' first|refine az.mk ?_ ?_;exact gV|exact aV
 all_goals
  refine ao _ (ao _ (aM ?_ (hK ?_ il ?_ ?_ ?_ (by omega) ?_ ?_)))
  ·repeat' first|exact gR|refine az.mk ?_ ?_
  all_goals omega
def Mg:CS:=jb 105 [] (λ p _ K=>az (0<=p/\p<=1000000) <| ∀(r:Int) (l:List Int) (s f p':Int),l.length<=100->p<=p'->p'<=p+100->K (.a (yz.d ⟨r,l,s,f⟩)) p')
theorem Q4:bW al.prog 180 Mg:=tL gK Tw
def R5:Env:=[(25,zu)]
theorem I8:bg al.prog R5:=aC ⟨Ac,trivial⟩
def Io:DA [.inr [.int,.ints,.int,.int],.inr [.int,.ints,.int,.int]]->(DV->Prop)->Prop:=λ⟨⟨r,l,s,f,_⟩,⟨r2,l2,s2,f2,_⟩,_⟩ K=>K (.l (.v (.bool (decide (r=r2/\s=s2/\f=f2/\l=l2)))))
theorem Rs:ji al.prog 139 [.inr [.int,.ints,.int,.int],.inr [.int,.ints,.int,.int]] Io:=by
 refine bh (TR:=ja) aS aH I8 (Rn.fM Tryz.func139) rfl ?_
 dsimp only[DA,HL,Sh.T]
 rintro⟨⟨r,l,s,f,_⟩,⟨r2,l2,s2,f2,_⟩,_⟩ K hK _
 dsimp only[Io] at hK
 repeat' (conv=>whnf);first|refine az.mk ?_ ?_;exact gS|refine End.mk ?_|apply gU;exact gA|refine gB ?_ ?_<;>intro hb h<;>try exact c8
 all_goals
  (refine gI hK ?_;repeat' first|exact gR|refine az.mk ?_ ?_)
  simp_all
def HQ:CS:=dn [.inr [.int,.ints,.int,.int],.inr [.int,.ints,.int,.int]] Io
theorem Nf:bW al.prog 139 HQ:=bH Rs
def RO:Env:=[(146,oH),(147,zr)]
theorem IV:bg al.prog RO:=aC ⟨nU,z9,trivial⟩
def Ib:DA [.inr [.int,.int,.bK,.bool,.int]]->(DV->Prop)->Prop:=λ⟨⟨rr,rt,rl,ro,ra,_⟩,_⟩ K=>K (A2 ⟨rr,rt,rl,ro,ra⟩).d
theorem Re:ji al.prog 78 [.inr [.int,.int,.bK,.bool,.int]] Ib:=by
 refine bh (TR:=ja) aS aH IV (Rn.fM Tryz.func78) rfl ?_
 dsimp only[DA,HL,Sh.T]
 rintro⟨⟨rr,rt,rl,ro,ra,_⟩,_⟩ K hK ⟨⟨_,_,hl,_⟩,_⟩
 dsimp only[Ib] at hK
 replace hl:=gl rl hl
 refine fw (p:=ir ⟨rr,rt,rl,ro,ra⟩=ae) (λ hv=>?_) (λ hv=>?_)
 ·have Uz:=oN hv
  dsimp only at Uz
  have he:A2 ⟨rr,rt,rl,ro,ra⟩=⟨yR ⟨rr,rt,rl,ro,ra⟩,ae⟩:=by simp[A2,hv]
  rw[he] at hK
  repeat' (conv=>whnf);first|refine az.mk ?_ ?_;exact gS|refine End.mk ?_|apply gU;exact gA|refine gB ?_ ?_<;>intro hb h<;>try exact c8
  all_goals (refine gI hK ?_;repeat' first|exact gR|refine az.mk ?_ ?_)
  all_goals (simp_all [yR,EL.len]<;>first|done|omega)
 ·replace hv:ir ⟨rr,rt,rl,ro,ra⟩=aa:=by simpa using hv
  have he:A2 ⟨rr,rt,rl,ro,ra⟩=⟨JE,aa⟩:=by simp[A2,hv]
  rw[he] at hK
  exact gW
def HD:CS:=dn [.inr [.int,.int,.bK,.bool,.int]] Ib
theorem M6:bW al.prog 78 HD:=bH Re
def TP:Env:=[(237,r8)]
theorem K9:bg al.prog TP:=aC ⟨uD,trivial⟩
def XV:Nat->Tr:=λ n=>match n with
 |1=>.op 0 0 (.op 2 0 (.op 3 0 (.fork 1 1 (.fork 4 1 (.fork 5 1 (.op 6 1 (.op 7 2 (.nil))) 6 1 (.op 5 1 (.op 7 2 (.nil)))) 6 1 (.op 4 1 (.op 5 1 (.op 7 2 (.nil))))) 6 1 (.op 1 1 (.op 4 1 (.op 5 1 (.op 7 2 (.nil))))))))
 |_=>.nil
def MD:DA [.inr [.int,.int,.bK,.bool,.int]]->(DV->Prop)->Prop:=λ⟨⟨rr,rt,rl,ro,ra,_⟩,_⟩ K=>az (0<=ra/\ra<=99) <| K (.a (yy.d (yR ⟨rr,rt,rl,ro,ra⟩)))
theorem Tm:ji al.prog 197 [.inr [.int,.int,.bK,.bool,.int]] MD:=by
 refine bh (TR:=XV) aS aH K9 (Rn.fM Tryz.func197) rfl ?_
 dsimp only[DA,HL,Sh.T]
 rintro⟨⟨rr,rt,rl,ro,ra,_⟩,_⟩ K ⟨hv,hK⟩ ⟨⟨_,_,hl,_⟩,_⟩
 replace hK:K (.a (yy.d (yR ⟨rr,rt,rl,ro,ra⟩))):=hK
 replace hv:0<=ra/\ra<=99:=hv
 replace hl:=gl rl hl
 repeat' (conv=>whnf);first|refine az.mk ?_ ?_;exact gS|refine Fork.mk ?_ ?_;exact ER|refine End.mk ?_|apply gU;exact gA|refine gB ?_ ?_<;>intro hb h<;>try exact c8
 all_goals (refine gI hK ?_;repeat' first|exact gR|refine az.mk ?_ ?_)
 all_goals (simp_all [yR,EL.len]<;>first|done|omega)
def L9:CS:=dn [.inr [.int,.int,.bK,.bool,.int]] MD
theorem QX:bW al.prog 197 L9:=bH Tm
def N1:Env:=[(146,oH)]
theorem FQ:bg al.prog N1:=aC ⟨nU,trivial⟩
def Ez:DA [.inr [.int,.int,.bK,.bool,.int]]->(DV->Prop)->Prop:=λ⟨⟨rr,rt,rl,ro,ra,_⟩,_⟩ K=>K (.l (.v (.int .i64 (lW ⟨rr,rt,rl,ro,ra⟩))))
theorem Nz:ji al.prog 163 [.inr [.int,.int,.bK,.bool,.int]] Ez:=by
 refine bh (TR:=ja) aS aH FQ (Rn.fM Tryz.func163) rfl ?_
 dsimp only[DA,HL,Sh.T]
 rintro⟨⟨rr,rt,rl,ro,ra,_⟩,_⟩ K hK ⟨⟨_,_,hl,_⟩,_⟩
 dsimp only[Ez] at hK
 replace hl:=gl rl hl
 repeat' (conv=>whnf);first|refine az.mk ?_ ?_;exact gS|refine End.mk ?_|apply gU;exact gA|refine gB ?_ ?_<;>intro hb h<;>try exact c8
 all_goals (refine gI hK ?_;repeat' first|exact gR|refine az.mk ?_ ?_)
 all_goals clear hK
 all_goals (simp_all [lW,EL.len]<;>first|done|omega|(intros;omega))
def D7:CS:=dn [.inr [.int,.int,.bK,.bool,.int]] Ez
theorem Kj:bW al.prog 163 D7:=bH Nz
def Od:Env:=[(194,mK)]
theorem F8:bg al.prog Od:=aC ⟨lI,trivial⟩
def EJ:DA [.inr [.int,.int,.bK,.bool,.int]]->(DV->Prop)->Prop:=λ⟨⟨rr,rt,rl,ro,ra,_⟩,_⟩ K=>K (.l (.v (.int .i64 (lW ⟨rr,rt,rl,ro,ra⟩))))
theorem NK:ji al.prog 203 [.inr [.int,.int,.bK,.bool,.int]] EJ:=by
 refine bh (TR:=ja) aS aH F8 (Rn.fM Tryz.func203) rfl ?_
 dsimp only[DA,HL,Sh.T]
 rintro⟨⟨rr,rt,rl,ro,ra,_⟩,_⟩ K hK ⟨⟨_,_,hl,_⟩,_⟩
 dsimp only[EJ] at hK
 replace hl:=gl rl hl
 refine fw (p:=ir ⟨rr,rt,rl,ro,ra⟩=ae) (λ hv=>?_) (λ hv=>?_)
 ·have Uz:=oN hv
  dsimp only at Uz
  have he:lW ⟨rr,rt,rl,ro,ra⟩=(if rt<=rl.length then 1 else if 0<rl.length/\4<=ra then 2 else 0):=by simp[lW,hv]
  rw[he] at hK
  clear he
  repeat' (conv=>whnf);first|refine az.mk ?_ ?_;exact gS|refine End.mk ?_|apply gU;exact gA|refine gB ?_ ?_<;>intro hb h<;>try exact c8
  all_goals (refine gI hK ?_;repeat' first|exact gR|refine az.mk ?_ ?_)
  all_goals clear hK
  all_goals
   dsimp only[EL.len] at *
   repeat' split
   all_goals omega
 ·replace hv:ir ⟨rr,rt,rl,ro,ra⟩=aa:=by simpa using hv
  have he:lW ⟨rr,rt,rl,ro,ra⟩=0:=by simp[lW,hv]
  rw[he] at hK
  exact gW
def Ec:CS:=dn [.inr [.int,.int,.bK,.bool,.int]] EJ
theorem Kp:bW al.prog 203 Ec:=bH NK
def KM:Env:=[(146,oH)]
theorem Dn:bg al.prog KM:=aC ⟨nU,trivial⟩
def BV:DA [.inr [.int,.int,.bK,.bool,.int]]->(DV->Prop)->Prop:=λ⟨⟨rr,rt,rl,ro,ra,_⟩,_⟩ K=>K (.l (.v (.int .i64 (fi ⟨rr,rt,rl,ro,ra⟩))))
theorem Kw:ji al.prog 161 [.inr [.int,.int,.bK,.bool,.int]] BV:=by
 refine bh (TR:=ja) aS aH Dn (Rn.fM Tryz.func161) rfl ?_
 dsimp only[DA,HL,Sh.T]
 rintro⟨⟨rr,rt,rl,ro,ra,_⟩,_⟩ K hK ⟨⟨_,_,hl,_⟩,_⟩
 dsimp only[BV] at hK
 replace hl:=gl rl hl
 refine fw (p:=ir ⟨rr,rt,rl,ro,ra⟩=ae) (λ hv=>?_) (λ hv=>?_)
 ·have he:fi ⟨rr,rt,rl,ro,ra⟩=(if ro then 2 else 0)+rK rl:=by simp[fi,hv]
  rw[he] at hK
  clear he
  match rl with
  |[]=>
   repeat' (conv=>whnf);first|refine az.mk ?_ ?_;exact gS|refine End.mk ?_|apply gU;exact gA|refine gB ?_ ?_<;>intro hb h<;>try exact c8
   all_goals (refine gI hK ?_;repeat' first|exact gR|refine az.mk ?_ ?_)
   all_goals clear hK
   all_goals (simp_all [rK]<;>omega)
  |g::m=>
   repeat' (conv=>whnf);first|refine az.mk ?_ ?_;exact gS|refine End.mk ?_|apply gU;exact gA|refine gB ?_ ?_<;>intro hb h<;>try exact c8
   all_goals (refine gI hK ?_;repeat' first|exact gR|refine az.mk ?_ ?_)
   all_goals clear hK
   all_goals (simp_all [rK]<;>omega)
 ·replace hv:ir ⟨rr,rt,rl,ro,ra⟩=aa:=by simpa using hv
  have he:fi ⟨rr,rt,rl,ro,ra⟩=-1:=by simp[fi,hv]
  rw[he] at hK
  exact gW
def BD:CS:=dn [.inr [.int,.int,.bK,.bool,.int]] BV
theorem Iz:bW al.prog 161 BD:=bH Kw
def K6:Env:=[(194,mK)]
theorem Dw:bg al.prog K6:=aC ⟨lI,trivial⟩
def B2:DA [.inr [.int,.int,.bK,.bool,.int]]->(DV->Prop)->Prop:=λ⟨⟨rr,rt,rl,ro,ra,_⟩,_⟩ K=>K (.l (.v (.int .i64 (fi ⟨rr,rt,rl,ro,ra⟩))))
theorem KE:ji al.prog 239 [.inr [.int,.int,.bK,.bool,.int]] B2:=by
 refine bh (TR:=ja) aS aH Dw (Rn.fM Tryz.func239) rfl ?_
 dsimp only[DA,HL,Sh.T]
 rintro⟨⟨rr,rt,rl,ro,ra,_⟩,_⟩ K hK ⟨⟨_,_,hl,_⟩,_⟩
 dsimp only[B2] at hK
 replace hl:=gl rl hl
 refine fw (p:=ir ⟨rr,rt,rl,ro,ra⟩=ae) (λ hv=>?_) (λ hv=>?_)
 ·have he:fi ⟨rr,rt,rl,ro,ra⟩=(if ro then 2 else 0)+rK rl:=by simp[fi,hv]
  rw[he] at hK
  clear he
  match rl with
  |[]=>
   repeat' (conv=>whnf);first|refine az.mk ?_ ?_;exact gS|refine End.mk ?_|apply gU;exact gA|refine gB ?_ ?_<;>intro hb h<;>try exact c8
   all_goals (refine gI hK ?_;repeat' first|exact gR|refine az.mk ?_ ?_)
   all_goals clear hK
   all_goals (simp_all [rK]<;>omega)
  |g::m=>
   repeat' (conv=>whnf);first|refine az.mk ?_ ?_;exact gS|refine End.mk ?_|apply gU;exact gA|refine gB ?_ ?_<;>intro hb h<;>try exact c8
   all_goals (refine gI hK ?_;repeat' first|exact gR|refine az.mk ?_ ?_)
   all_goals clear hK
   all_goals (simp_all [rK]<;>omega)
 ·replace hv:ir ⟨rr,rt,rl,ro,ra⟩=aa:=by simpa using hv
  have he:fi ⟨rr,rt,rl,ro,ra⟩=-1:=by simp[fi,hv]
  rw[he] at hK
  exact gW
def BM:CS:=dn [.inr [.int,.int,.bK,.bool,.int]] B2
theorem IF:bW al.prog 239 BM:=bH KE
def K8:Env:=[(195,rE)]
theorem Dx:bg al.prog K8:=aC ⟨qZ,trivial⟩
def B3:DA [.inr [.int,.ints,.int,.int]]->(DV->Prop)->Prop:=λ⟨⟨sr,sl,ss,sf,_⟩,_⟩ K=>K (.l (.v (.int .i64 (jw ⟨sr,sl,ss,sf⟩))))
theorem KF:ji al.prog 240 [.inr [.int,.ints,.int,.int]] B3:=by
 refine bh (TR:=ja) aS aH Dx (Rn.fM Tryz.func240) rfl ?_
 dsimp only[DA,HL,Sh.T]
 rintro⟨⟨sr,sl,ss,sf,_⟩,_⟩ K hK ⟨⟨_,hl,_⟩,_⟩
 dsimp only[B3] at hK
 replace hl:=gl sl hl
 refine fw (p:=lK ⟨sr,sl,ss,sf⟩=ae) (λ hv=>?_) (λ hv=>?_)
 ·have Uz:=kC hv
  dsimp only at Uz
  have he:jw ⟨sr,sl,ss,sf⟩=(if 0<sl.length then 0 else if ss=-1 then 96 else 32):=by simp[jw,hv]
  rw[he] at hK
  clear he
  repeat' (conv=>whnf);first|refine az.mk ?_ ?_;exact gS|refine End.mk ?_|apply gU;exact gA|refine gB ?_ ?_<;>intro hb h<;>try exact c8
  all_goals (refine gI hK ?_;repeat' first|exact gR|refine az.mk ?_ ?_)
  all_goals clear hK
  all_goals
   dsimp only[EL.len] at *
   repeat' split
   all_goals omega
 ·replace hv:lK ⟨sr,sl,ss,sf⟩=aa:=by simpa using hv
  have he:jw ⟨sr,sl,ss,sf⟩=-1:=by simp[jw,hv]
  rw[he] at hK
  exact gW
def BN:CS:=dn [.inr [.int,.ints,.int,.int]] B3
theorem IG:bW al.prog 240 BN:=bH KF
def TH:Env:=[]
theorem KV:bg al.prog TH:=aC trivial
def XP:Nat->Tr:=λ n=>match n with
 |6=>.op 0 0 (.op 1 0 (.op 2 0 (.op 3 0 (.op 4 0 (.op 5 1 (.op 6 1 (.op 7 1 (.op 8 1 (.nil)))))))))
 |_=>.nil
def Mx:DA [.inl .bK,.inl .bK]->(DV->Prop)->Prop:=λ⟨a,b,_⟩ K=>K (.l (.v (.bool (decide (a=b)))))
theorem Te:ji al.prog 210 [.inl .bK,.inl .bK] Mx:=by
 refine bh (TR:=XP) aS aH KV (Rn.fM Tryz.func210) rfl ?_
 rintro⟨(a:List (Int×Int)),(b:List (Int×Int)),_⟩ K hK ⟨hla,hlb,_⟩
 dsimp only[Mx] at hK
 replace hla:=gl a hla
 replace hlb:=gl b hlb
 repeat' (conv=>whnf);first|refine az.mk ?_ ?_;exact gS|refine End.mk ?_|apply gU;exact gA|refine gB ?_ ?_<;>intro hb h<;>try exact c8
 ·(refine gI hK ?_;repeat' first|exact gR|refine az.mk ?_ ?_)
  exact(decide_eq_false (λ e=>h (by rw[e]))).symm
 ·repeat' (conv=>whnf);first|refine az.mk ?_ ?_;exact gS|refine End.mk ?_|apply gU;exact gA|refine gB ?_ ?_<;>intro hb h<;>try exact c8
  refine iK.inv {k:Nat // k<=a.length/\a.take k=b.take k} (λ⟨k,_⟩=>[(5,.l (.v (.int .i64 k)))]) (λ _=>[]) (λ⟨k,_⟩=>a.length-k) ⟨0,bw _,rfl⟩ [] ?_ ?_
  ·repeat' first|refine az.mk ?_ ?_;exact gV|exact aV
  rintro⟨k,hk,tl⟩
  repeat' (conv=>whnf);first|refine az.mk ?_ ?_;exact gS|refine End.mk ?_|apply gU;exact gA|refine gB ?_ ?_<;>intro hb h<;>try exact c8
  ·(refine gI hK ?_;repeat' first|exact gR|refine az.mk ?_ ?_)
   exact(decide_eq_false (λ e=>by rw[e] at h;simp at h)).symm
  ·have h2:a.take (k+1)=b.take (k+1):=by
    rw[je] at h
    exact Z1 (by omega) (by omega) tl (Prod.ext h.1 h.2.1)
   (refine ao ⟨k+1,by omega,h2⟩ (ao [] (aM ?_ ?_)))
   ·show a.length-(k+1)<a.length-k
    omega
   ·repeat' first|refine az.mk ?_ ?_;exact gV|exact aV
  ·(refine gI hK ?_;repeat' first|exact gR|refine az.mk ?_ ?_)
   rw[bq (by omega),bq (by omega)] at tl
   exact(decide_eq_true tl).symm
def L3:CS:=dn [.inl .bK,.inl .bK] Mx
theorem QS:bW al.prog 210 L3:=bH Te
def R4:Env:=[(210,L3)]
theorem I7:bg al.prog R4:=aC ⟨QS,trivial⟩
def Im:DA [.inr [.int,.int,.bK,.bool,.int],.inr [.int,.int,.bK,.bool,.int]]->(DV->Prop)->Prop:=λ⟨⟨r,t,l,o,a,_⟩,⟨r2,t2,l2,o2,a2,_⟩,_⟩ K=>K (.l (.v (.bool (decide (r=r2/\t=t2/\o=o2/\a=a2/\l=l2)))))
theorem Rq:ji al.prog 138 [.inr [.int,.int,.bK,.bool,.int],.inr [.int,.int,.bK,.bool,.int]] Im:=by
 refine bh (TR:=ja) aS aH I7 (Rn.fM Tryz.func138) rfl ?_
 dsimp only[DA,HL,Sh.T]
 rintro⟨⟨r,t,l,o,a,_⟩,⟨r2,t2,l2,o2,a2,_⟩,_⟩ K hK _
 dsimp only[Im] at hK
 repeat' (conv=>whnf);first|refine az.mk ?_ ?_;exact gS|refine End.mk ?_|apply gU;exact gA|refine gB ?_ ?_<;>intro hb h<;>try exact c8
 all_goals
  (refine gI hK ?_;repeat' first|exact gR|refine az.mk ?_ ?_)
  simp_all
def HP:CS:=dn [.inr [.int,.int,.bK,.bool,.int],.inr [.int,.int,.bK,.bool,.int]] Im
theorem Nc:bW al.prog 138 HP:=bH Rq
def H5:Env:=[]
theorem N4:bg al.prog H5:=aC trivial
def y8:CS:=Jt jV H5 ja Tryz.f87
theorem wQ:bW al.prog 87 y8:=iy aS aH N4 (Rn.fM Tryz.func87)
def Cl:Env:=[(146,oH),(142,oI)]
theorem yv:bg al.prog Cl:=aC ⟨nU,nV,trivial⟩
def uZ:DA [.inr [.int,.int,.bK,.bool,.int,.int,.ints,.int,.int]]->(DV->Prop)->Prop:=λ⟨⟨rr,rt,rl,ro,ra,sr,sl,ss,sf,_⟩,_⟩ K=>K (.l (.v (.bool (ir ⟨rr,rt,rl,ro,ra⟩ && lK ⟨sr,sl,ss,sf⟩))))
theorem Cc:ji al.prog 141 [.inr [.int,.int,.bK,.bool,.int,.int,.ints,.int,.int]] uZ:=by
 refine bh (TR:=ja) aS aH yv (Rn.fM Tryz.func141) rfl ?_
 dsimp only[DA,HL,Sh.T]
 rintro⟨⟨rr,rt,rl,ro,ra,sr,sl,ss,sf,_⟩,_⟩ K hK _
 dsimp only[uZ] at hK
 repeat' (conv=>whnf);first|refine az.mk ?_ ?_;exact gS|refine End.mk ?_|apply gU;exact gA|refine gB ?_ ?_<;>intro hb h<;>try exact c8
 all_goals
  (refine gI hK ?_;repeat' first|exact gR|refine az.mk ?_ ?_)
  simp[*]
def uQ:CS:=dn [.inr [.int,.int,.bK,.bool,.int,.int,.ints,.int,.int]] uZ
theorem Ax:bW al.prog 141 uQ:=bH Cc
def AE:Env:=[(161,BD),(162,BE)]
theorem w8:bg al.prog AE:=aC ⟨Iz,IA,trivial⟩
def Cq:Nat->Tr:=λ n=>match n with
 |1=>.op 0 0 (.op 1 0 (.op 3 0 (.op 4 0 (.op 2 1 (.op 5 1 (.op 6 1 (.op 7 2 (.nil))))))))
 |_=>.nil
def sX:DA [.inr [.int,.int,.bK,.bool,.int,.int,.ints,.int,.int]]->(DV->Prop)->Prop:=λ⟨⟨rr,rt,rl,ro,ra,sr,sl,ss,sf,_⟩,_⟩ K=>az (rng .i64 (fi ⟨rr,rt,rl,ro,ra⟩+jw ⟨sr,sl,ss,sf⟩)) <| K (.l (.v (.int .i64 (fi ⟨rr,rt,rl,ro,ra⟩+jw ⟨sr,sl,ss,sf⟩))))
theorem Ay:ji al.prog 89 [.inr [.int,.int,.bK,.bool,.int,.int,.ints,.int,.int]] sX:=by
 refine bh (TR:=Cq) aS aH w8 (Rn.fM Tryz.func89) rfl ?_
 dsimp only[DA,HL,Sh.T]
 rintro⟨⟨rr,rt,rl,ro,ra,sr,sl,ss,sf,_⟩,_⟩ K ⟨hv,hK⟩ _
 replace hK:K (.l (.v (.int .i64 (fi ⟨rr,rt,rl,ro,ra⟩+jw ⟨sr,sl,ss,sf⟩)))):=hK
 replace hv:rng .i64 (fi ⟨rr,rt,rl,ro,ra⟩+jw ⟨sr,sl,ss,sf⟩):=hv
 exact gW
def oq:CS:=dn [.inr [.int,.int,.bK,.bool,.int,.int,.ints,.int,.int]] sX
theorem qq:bW al.prog 89 oq:=bH Ay
def Ck:Env:=[(163,D7)]
theorem yu:bg al.prog Ck:=aC ⟨Kj,trivial⟩
def uY:DA [.inr [.int,.int,.bK,.bool,.int,.int,.ints,.int,.int]]->(DV->Prop)->Prop:=λ⟨⟨rr,rt,rl,ro,ra,sr,sl,ss,sf,_⟩,_⟩ K=>K (.l (.v (.int .i64 (lW ⟨rr,rt,rl,ro,ra⟩))))
theorem Cb:ji al.prog 90 [.inr [.int,.int,.bK,.bool,.int,.int,.ints,.int,.int]] uY:=by
 refine bh (TR:=ja) aS aH yu (Rn.fM Tryz.func90) rfl ?_
 dsimp only[DA,HL,Sh.T]
 rintro⟨⟨rr,rt,rl,ro,ra,sr,sl,ss,sf,_⟩,_⟩ K hK _
 dsimp only[uY] at hK
 exact gW
def uP:CS:=dn [.inr [.int,.int,.bK,.bool,.int,.int,.ints,.int,.int]] uY
theorem Aw:bW al.prog 90 uP:=bH Cb
def NY:Env:=[(140,sK),(87,y8),(141,uQ)]
theorem FO:bg al.prog NY:=aC ⟨uO,wQ,Ax,trivial⟩
def Ew:DA [lR]->(DV->Prop)->Prop:=λ⟨⟨fb,fq,fst,pe,pc,rr,rt,rl,ro,ra,sr,sl,ss,sf,mc,mh,cy,cz,_⟩,_⟩ K=>K (.l (.v (.bool (eS ⟨⟨fb,fq,fst⟩,pe,pc,⟨rr,rt,rl,ro,ra⟩,⟨sr,sl,ss,sf⟩,⟨mc,mh,cy,cz⟩⟩))))
theorem Nx:ji al.prog 76 [lR] Ew:=by
 refine bh (TR:=ja) aS aH FO (Rn.fM Tryz.func76) rfl ?_
 dsimp only[DA,HL,Sh.T]
 rintro⟨⟨fb,fq,fst,pe,pc,rr,rt,rl,ro,ra,sr,sl,ss,sf,mc,mh,cy,cz,_⟩,_⟩ K hK _
 dsimp only[Ew] at hK
 repeat' (conv=>whnf);first|refine az.mk ?_ ?_;exact gS|refine End.mk ?_|apply gU;exact gA|refine gB ?_ ?_<;>intro hb h<;>try exact c8
 all_goals
  (refine gI hK ?_;repeat' first|exact gR|refine az.mk ?_ ?_)
  first
  |(simp_all [eS];done)
  |(simp_all [eS];intros;omega)
def lh:CS:=dn [lR] Ew
theorem jS:bW al.prog 76 lh:=bH Nx
def Ob:Env:=[(193,sO),(56,mj),(194,mK),(195,rE)]
theorem F6:bg al.prog Ob:=aC ⟨uS,iW,lI,qZ,trivial⟩
def EH:DA [lR]->(DV->Prop)->Prop:=λ⟨⟨fb,fq,fst,pe,pc,rr,rt,rl,ro,ra,sr,sl,ss,sf,mc,mh,cy,cz,_⟩,_⟩ K=>K (.l (.v (.bool (eS ⟨⟨fb,fq,fst⟩,pe,pc,⟨rr,rt,rl,ro,ra⟩,⟨sr,sl,ss,sf⟩,⟨mc,mh,cy,cz⟩⟩))))
theorem NI:ji al.prog 128 [lR] EH:=by
 refine bh (TR:=ja) aS aH F6 (Rn.fM Tryz.func128) rfl ?_
 dsimp only[DA,HL,Sh.T]
 rintro⟨⟨fb,fq,fst,pe,pc,rr,rt,rl,ro,ra,sr,sl,ss,sf,mc,mh,cy,cz,_⟩,_⟩ K hK _
 dsimp only[EH] at hK
 repeat' (conv=>whnf);first|refine az.mk ?_ ?_;exact gS|refine End.mk ?_|apply gU;exact gA|refine gB ?_ ?_<;>intro hb h<;>try exact c8
 all_goals
  (refine gI hK ?_;repeat' first|exact gR|refine az.mk ?_ ?_)
  first
  |(simp_all [eS];done)
  |(simp_all [eS];intros;omega)
def mJ:CS:=dn [lR] EH
theorem lH:bW al.prog 128 mJ:=bH NI
def RV:Env:=[(147,zr),(143,zt)]
theorem I2:bg al.prog RV:=aC ⟨z9,Aa,trivial⟩
def Ih:DA [lR]->(DV->Prop)->Prop:=λ⟨⟨fb,fq,fst,pe,pc,rr,rt,rl,ro,ra,sr,sl,ss,sf,mc,mh,cy,cz,_⟩,_⟩ K=>K (.a (re.d ⟨⟨fb,fq,fst⟩,pe,pc,⟨rr,rt,rl,ro,ra⟩,⟨sr,sl,ss,sf⟩,⟨mc,mh,cy,cz⟩⟩))
theorem Rh:ji al.prog 86 [lR] Ih:=by
 refine bh (TR:=ja) aS aH I2 (Rn.fM Tryz.func86) rfl ?_
 dsimp only[DA,HL,Sh.T]
 rintro⟨⟨fb,fq,fst,pe,pc,rr,rt,rl,ro,ra,sr,sl,ss,sf,mc,mh,cy,cz,_⟩,_⟩ K hK ⟨⟨_,_,_,_,_,_,_,Ya,_,_,_,yD,_⟩,_⟩
 dsimp only[Ih] at hK
 replace Ya:=gl rl Ya
 replace yD:=gl sl yD
 exact gW
def tj:CS:=dn [lR] Ih
theorem sM:bW al.prog 86 tj:=bH Rh
def TT:Env:=[]
theorem Lc:bg al.prog TT:=aC trivial
def MG:DA [lR]->(DV->Prop)->Prop:=λ⟨⟨fb,fq,fst,pe,pc,rr,rt,rl,ro,ra,sr,sl,ss,sf,mc,mh,cy,cz,_⟩,_⟩ K=>K (.a (re.d ⟨⟨fb,fq,fst⟩,pe,pc,⟨rr,rt,rl,ro,ra⟩,⟨sr,sl,ss,sf⟩,⟨mc,mh,cy,cz⟩⟩))
theorem To:ji al.prog 92 [lR] MG:=by
 refine bh (TR:=ja) aS aH Lc (Rn.fM Tryz.func92) rfl ?_
 dsimp only[DA,HL,Sh.T]
 rintro⟨⟨fb,fq,fst,pe,pc,rr,rt,rl,ro,ra,sr,sl,ss,sf,mc,mh,cy,cz,_⟩,_⟩ K hK ⟨⟨_,_,_,_,_,_,_,Ya,_,_,_,yD,_⟩,_⟩
 dsimp only[MG] at hK
 replace Ya:=gl rl Ya
 replace yD:=gl sl yD
 exact gW
def r9:CS:=dn [lR] MG
theorem qh:bW al.prog 92 r9:=bH To
def Oi:Env:=[(239,BM),(240,BN)]
theorem Gb:bg al.prog Oi:=aC ⟨IF,IG,trivial⟩
def Sk:Nat->Tr:=λ n=>match n with
 |1=>.op 0 0 (.op 1 0 (.op 3 0 (.op 4 0 (.op 2 1 (.op 5 1 (.op 6 1 (.op 7 2 (.nil))))))))
 |_=>.nil
def EO:DA [lR]->(DV->Prop)->Prop:=λ⟨⟨fb,fq,fst,pe,pc,rr,rt,rl,ro,ra,sr,sl,ss,sf,mc,mh,cy,cz,_⟩,_⟩ K=>az (rng .i64 (fi ⟨rr,rt,rl,ro,ra⟩+jw ⟨sr,sl,ss,sf⟩)) <| K (.l (.v (.int .i64 (fi ⟨rr,rt,rl,ro,ra⟩+jw ⟨sr,sl,ss,sf⟩))))
theorem NN:ji al.prog 202 [lR] EO:=by
 refine bh (TR:=Sk) aS aH Gb (Rn.fM Tryz.func202) rfl ?_
 dsimp only[DA,HL,Sh.T]
 rintro⟨⟨fb,fq,fst,pe,pc,rr,rt,rl,ro,ra,sr,sl,ss,sf,mc,mh,cy,cz,_⟩,_⟩ K ⟨hv,hK⟩ _
 replace hK:K (.l (.v (.int .i64 (fi ⟨rr,rt,rl,ro,ra⟩+jw ⟨sr,sl,ss,sf⟩)))):=hK
 replace hv:rng .i64 (fi ⟨rr,rt,rl,ro,ra⟩+jw ⟨sr,sl,ss,sf⟩):=hv
 exact gW
def wT:CS:=dn [lR] EO
theorem x7:bW al.prog 202 wT:=bH NN
def R3:Env:=[(138,HP),(139,HQ)]
theorem I6:bg al.prog R3:=aC ⟨Nc,Nf,trivial⟩
def Il:DA [lR,lR]->(DV->Prop)->Prop:=λ⟨⟨fb,fq,fst,pe,pc,rr,rt,rl,ro,ra,sr,sl,ss,sf,mc,mh,cy,cz,_⟩,⟨Gj,Sz,wq,pe2,pc2,rr2,rt2,rl2,ro2,ra2,sr2,sl2,ss2,sf2,mc2,mh2,zaT,zaU,_⟩,_⟩ K=>K (.l (.v (.bool (UQ ⟨⟨fb,fq,fst⟩,pe,pc,⟨rr,rt,rl,ro,ra⟩,⟨sr,sl,ss,sf⟩,⟨mc,mh,cy,cz⟩⟩ ⟨⟨Gj,Sz,wq⟩,pe2,pc2,⟨rr2,rt2,rl2,ro2,ra2⟩,⟨sr2,sl2,ss2,sf2⟩,⟨mc2,mh2,zaT,zaU⟩⟩))))
theorem Rp:ji al.prog 75 [lR,lR] Il:=by
 refine bh (TR:=ja) aS aH I6 (Rn.fM Tryz.func75) rfl ?_
 dsimp only[DA,HL,Sh.T]
 rintro⟨⟨fb,fq,fst,pe,pc,rr,rt,rl,ro,ra,sr,sl,ss,sf,mc,mh,cy,cz,_⟩,⟨Gj,Sz,wq,pe2,pc2,rr2,rt2,rl2,ro2,ra2,sr2,sl2,ss2,sf2,mc2,mh2,zaT,zaU,_⟩,_⟩ K hK _
 dsimp only[Il] at hK
 repeat' (conv=>whnf);first|refine az.mk ?_ ?_;exact gS|refine End.mk ?_|apply gU;exact gA|refine gB ?_ ?_<;>intro hb h<;>try exact c8
 all_goals
  (refine gI hK ?_;repeat' first|exact gR|refine az.mk ?_ ?_)
  simp_all [UQ]
def HN:CS:=dn [lR,lR] Il
theorem Nb:bW al.prog 75 HN:=bH Rp
def KS:Env:=[(86,tj)]
theorem Dr:bg al.prog KS:=aC ⟨sM,trivial⟩
def BY:DA [oc]->(DV->Prop)->Prop:=λ⟨⟨fb,fq,fst,pe,pc,rr,rt,rl,ro,ra,sr,sl,ss,sf,mc,mh,cy,cz,qi,qo,cw,cl,_⟩,_⟩ K=>K (.a (iY.d ⟨⟨⟨fb,fq,fst⟩,pe,pc,⟨rr,rt,rl,ro,ra⟩,⟨sr,sl,ss,sf⟩,⟨mc,mh,cy,cz⟩⟩,qi,qo,cw,cl⟩))
theorem Kz:ji al.prog 51 [oc] BY:=by
 refine bh (TR:=ja) aS aH Dr (Rn.fM Tryz.func51) rfl ?_
 dsimp only[DA,HL,Sh.T]
 rintro⟨⟨fb,fq,fst,pe,pc,rr,rt,rl,ro,ra,sr,sl,ss,sf,mc,mh,cy,cz,qi,qo,cw,cl,_⟩,_⟩ K hK ⟨⟨_,_,_,_,_,_,_,h1,_,_,_,h2,_,_,_,_,_,_,h3,h4,_⟩,_⟩
 dsimp only[BY] at hK
 replace h1:=gl rl h1
 replace h2:=gl sl h2
 replace h3:=gl qi h3
 replace h4:=gl qo h4
 exact gW
def uC:CS:=dn [oc] BY
theorem vV:bW al.prog 51 uC:=bH Kz
def TX:Env:=[(92,r9)]
theorem Lh:bg al.prog TX:=aC ⟨qh,trivial⟩
def MJ:DA [oc]->(DV->Prop)->Prop:=λ⟨⟨fb,fq,fst,pe,pc,rr,rt,rl,ro,ra,sr,sl,ss,sf,mc,mh,cy,cz,qi,qo,cw,cl,_⟩,_⟩ K=>K (.a (iY.d ⟨⟨⟨fb,fq,fst⟩,pe,pc,⟨rr,rt,rl,ro,ra⟩,⟨sr,sl,ss,sf⟩,⟨mc,mh,cy,cz⟩⟩,qi,qo,cw,cl⟩))
theorem Ei:ji al.prog 54 [oc] MJ:=by
 refine bh (TR:=ja) aS aH Lh (Rn.fM Tryz.func54) rfl ?_
 dsimp only[DA,HL,Sh.T]
 rintro⟨⟨fb,fq,fst,pe,pc,rr,rt,rl,ro,ra,sr,sl,ss,sf,mc,mh,cy,cz,qi,qo,cw,cl,_⟩,_⟩ K hK ⟨⟨_,_,_,_,_,_,_,h1,_,_,_,h2,_,_,_,_,_,_,h3,h4,_⟩,_⟩
 dsimp only[MJ] at hK
 replace h1:=gl rl h1
 replace h2:=gl sl h2
 replace h3:=gl qi h3
 replace h4:=gl qo h4
 exact gW
def vG:CS:=dn [oc] MJ
theorem uE:bW al.prog 54 vG:=bH Ei
def N6:Env:=[(58,tf)]
theorem FX:bg al.prog N6:=aC ⟨sL,trivial⟩
def ED:DA [.inl .ints]->(DV->Prop)->Prop:=λ⟨l,_⟩ K=>K (.l (.v (.bool (DQ l))))
theorem NC:ji al.prog 81 [.inl .ints] ED:=by
 refine bh (TR:=ja) aS aH FX (Rn.fM Tryz.func81) rfl ?_
 rintro⟨(l:List Int),_⟩ K hK _
 dsimp only[ED] at hK
 repeat' (conv=>whnf);first|refine az.mk ?_ ?_;exact gS|refine End.mk ?_|apply gU;exact gA|refine gB ?_ ?_<;>intro hb h<;>try exact c8
 all_goals
  (refine gI hK ?_;repeat' first|exact gR|refine az.mk ?_ ?_)
  first
  |(simp_all [DQ];done)
  |(simp_all [DQ];intros;omega)
def D8:CS:=dn [.inl .ints] ED
theorem Kk:bW al.prog 81 D8:=bH NC
def KQ:Env:=[]
theorem Dq:bg al.prog KQ:=aC trivial
def BX:DA [.inl .int]->(DV->Prop)->Prop:=λ⟨n,_⟩ K=>K (.l (.v (.bool (SJ n))))
theorem Ky:ji al.prog 82 [.inl .int] BX:=by
 refine bh (TR:=ja) aS aH Dq (Rn.fM Tryz.func82) rfl ?_
 rintro⟨(n:Int),_⟩ K hK _
 dsimp only[BX] at hK
 repeat' (conv=>whnf);first|refine az.mk ?_ ?_;exact gS|refine End.mk ?_|apply gU;exact gA|refine gB ?_ ?_<;>intro hb h<;>try exact c8
 all_goals
  (refine gI hK ?_;repeat' first|exact gR|refine az.mk ?_ ?_)
  first
  |(simp_all [SJ];done)
  |(simp_all [SJ];omega)
def BF:CS:=dn [.inl .int] BX
theorem IB:bW al.prog 82 BF:=bH Ky
def IN:Env:=[(76,lh),(81,D8),(82,BF)]
theorem Ce:bg al.prog IN:=aC ⟨jS,Kk,IB,trivial⟩
def Ag:DA [oc]->(DV->Prop)->Prop:=λ⟨⟨fb,fq,fst,pe,pc,rr,rt,rl,ro,ra,sr,sl,ss,sf,mc,mh,cy,cz,qi,qo,cw,cl,_⟩,_⟩ K=>K (.l (.v (.bool (jj ⟨⟨⟨fb,fq,fst⟩,pe,pc,⟨rr,rt,rl,ro,ra⟩,⟨sr,sl,ss,sf⟩,⟨mc,mh,cy,cz⟩⟩,qi,qo,cw,cl⟩))))
theorem IH:ji al.prog 46 [oc] Ag:=by
 refine bh (TR:=ja) aS aH Ce (Rn.fM Tryz.func46) rfl ?_
 dsimp only[DA,HL,Sh.T]
 rintro⟨⟨fb,fq,fst,pe,pc,rr,rt,rl,ro,ra,sr,sl,ss,sf,mc,mh,cy,cz,qi,qo,cw,cl,_⟩,_⟩ K hK ⟨⟨_,_,_,_,_,_,_,h1,_,_,_,h2,_,_,_,_,_,_,h3,h4,_⟩,_⟩
 dsimp only[Ag] at hK
 replace h3:=gl qi h3
 replace h4:=gl qo h4
 repeat' (conv=>whnf);first|refine az.mk ?_ ?_;exact gS|refine End.mk ?_|apply gU;exact gA|refine gB ?_ ?_<;>intro hb h<;>try exact c8
 all_goals
  (refine gI hK ?_;repeat' first|exact gR|refine az.mk ?_ ?_)
  simp_all [jj]
def oR:CS:=dn [oc] Ag
theorem pd:bW al.prog 46 oR:=bH IH
def I9:Env:=[(128,mJ),(129,vH),(56,mj)]
theorem Cm:bg al.prog I9:=aC ⟨lH,uF,iW,trivial⟩
def Aj:DA [oc]->(DV->Prop)->Prop:=λ⟨⟨fb,fq,fst,pe,pc,rr,rt,rl,ro,ra,sr,sl,ss,sf,mc,mh,cy,cz,qi,qo,cw,cl,_⟩,_⟩ K=>K (.l (.v (.bool (jj ⟨⟨⟨fb,fq,fst⟩,pe,pc,⟨rr,rt,rl,ro,ra⟩,⟨sr,sl,ss,sf⟩,⟨mc,mh,cy,cz⟩⟩,qi,qo,cw,cl⟩))))
theorem IK:ji al.prog 72 [oc] Aj:=by
 refine bh (TR:=ja) aS aH Cm (Rn.fM Tryz.func72) rfl ?_
 dsimp only[DA,HL,Sh.T]
 rintro⟨⟨fb,fq,fst,pe,pc,rr,rt,rl,ro,ra,sr,sl,ss,sf,mc,mh,cy,cz,qi,qo,cw,cl,_⟩,_⟩ K hK ⟨⟨_,_,_,_,_,_,_,h1,_,_,_,h2,_,_,_,_,_,_,h3,h4,_⟩,_⟩
 dsimp only[Aj] at hK
 replace h3:=gl qi h3
 replace h4:=gl qo h4
 repeat' (conv=>whnf);first|refine az.mk ?_ ?_;exact gS|refine End.mk ?_|apply gU;exact gA|refine gB ?_ ?_<;>intro hb h<;>try exact c8
 all_goals
  (refine gI hK ?_;repeat' first|exact gR|refine az.mk ?_ ?_)
  first
  |(simp_all [jj,DQ,SJ];done)
  |(simp_all [jj,DQ,SJ];intros;omega)
def sN:CS:=dn [oc] Aj
theorem uR:bW al.prog 72 sN:=bH IK
end
section
open Go.RowKit
def Wc(room:Int)(l:List Int)(b:Int):Int×List Int×Bool:=
 if kB room l && eF b && decide ((l.length:Int)<room) then (room,l++[b],ae) else (0,[],aa)
theorem ZM(room:Int)(v:aj)(l:List Int)(b:Int)(w:ai)(hv:pK w v l)(hl:l.length<=1099511627776):
  fV al.prog 218 #[.agg #[.int .i64 room,v],.int .i64 b] w λ e w'=>∃r m ok a c,Wc room l b=(r,m,ok)/\e=.returned (.tuple #[.agg #[.int .i64 r,.slice a m.length c],.bool ok])/\cE w.heap.size w w'/\jv w' w.heap.size (.slice a m.length c) m:=by
 obtain⟨a,cap,rfl,-⟩:=hv.form
 have HV:=hid hv
 clear hv
 go_enter al.func218,Tryz.ntmps218
 go_wp2_with fail
 refine(rC _ _ _ _ (HV.out.below (kM _ _ _)) hl).mono ?_
 rintro e w1 ⟨rfl,sS⟩
 obtain⟨k0,k1,Sw,hB⟩:=Ps sS
 have HI:=hid (HV.out.below hB)
 replace k0:=hid k0
 replace k1:=hid k1
 replace hB:=hid hB
 clear sS
 cases fc:kB room l with
 |false=>
  obtain⟨c1,f1⟩:=blk k1.out;have z1:=(ah.1 k1.out).1
  go_wp2_with fail
  exact dW (v:=.tuple #[.agg #[.int .i64 0,.slice ak 0 0],.bool aa]) (by simp[results,sJ,go_sem,c1]) rfl ⟨_,[],_,ak,0,by simp[Wc,fc],rfl,(by repeat (first|(with_reducible exact dU (by assumption))|(with_reducible assumption)|(with_reducible exact bO _ _)|(with_reducible refine eL ?_ gO _)|(with_reducible refine dB ?_ gO _)|(with_reducible refine fZ ?_)|(with_reducible refine below_drewN ?_ _)|exact bO _ _|assumption|exact dU (by assumption))),jv.nil _ _⟩
 |true=>
  obtain⟨n,rfl,h1,h2,h3,-⟩:=Fj fc
  go_wp2_with fail
  refine(Fl b _).mono ?_
  rintro e w2 ⟨rfl,rfl⟩
  cases hbb:eF b with
  |false=>
   obtain⟨c1,f1⟩:=blk k1.out;have z1:=(ah.1 k1.out).1
   go_wp2_with fail
   exact dW (v:=.tuple #[.agg #[.int .i64 0,.slice ak 0 0],.bool aa]) (by simp[results,sJ,go_sem,c1]) rfl ⟨_,[],_,ak,0,by simp[Wc,hbb],rfl,(by repeat (first|(with_reducible exact dU (by assumption))|(with_reducible assumption)|(with_reducible exact bO _ _)|(with_reducible refine eL ?_ gO _)|(with_reducible refine dB ?_ gO _)|(with_reducible refine fZ ?_)|(with_reducible refine below_drewN ?_ _)|exact bO _ _|assumption|exact dU (by assumption))),jv.nil _ _⟩
  |true=>
   obtain⟨c0,f0⟩:=blk k0.out;have z0:=(ah.1 k0.out).1
   go_wp2_with fail
   refine(Fs n _ l _ HI.out h1 h2 h3).mono ?_
   rintro e w2 ⟨r,rfl,hr,pn,kU⟩
   have HR:=hid pn
   first|(replace k1:=hid (aK kU gO k1.out))|(replace k1:=hid (aK kU gO (bY k1.out)))
   replace hB:=hid (zFP hB.out kU)
   clear pn kU c0 f0 z0 k0
   by_cases cj:l.length<n
   ·have hM:Wc n l b=((n:Int),l++[b],ae):=by simp[Wc,fc,hbb];omega
    have HM:=hid hM
    clear hM
    go_wp2_with fail
    refine(Zx r n l b _ HR.out cj).mono ?_
    rintro e w3 ⟨rfl,pn,hg⟩
    have HR:=hid pn
    first|(replace k1:=hid (ug hg gO k1.out))|(replace k1:=hid (ug hg gO (bY k1.out)))
    replace hB:=hid (uB hB.out hg (by have:=hB.out.size;omega) (by omega))
    clear pn hg
    go_wp2_with fail
    refine(Ze r n (l++[b]) _ HR.out).mono ?_
    rintro e w4 ⟨a4,c4,rfl,dY,AH⟩
    have cj:=(ah.1 k1.out).1
    first|(replace k1:=hid (aK AH gO k1.out))|(replace k1:=hid (aK AH gO (bY k1.out)))
    replace hB:=hid (zFP hB.out AH)
    have HO:=hid dY
    clear dY AH
    obtain⟨c1,f1⟩:=blk k1.out;have z1:=(ah.1 k1.out).1
    go_wp2_with fail
    exact dW (v:=.tuple #[.agg #[.int .i64 n,.slice a4 (l++[b]).length c4],.bool ae]) (by simp[results,sJ,go_sem,c1]) rfl ⟨_,_,_,a4,c4,HM.out,rfl,(by repeat (first|(with_reducible exact dU (by assumption))|(with_reducible assumption)|(with_reducible exact bO _ _)|(with_reducible refine eL ?_ gO _)|(with_reducible refine dB ?_ gO _)|(with_reducible refine fZ ?_)|(with_reducible refine below_drewN ?_ _)|exact bO _ _|assumption|exact dU (by assumption))),jv.base (jv.set (jv.set HO.out (by simp;omega) _) (by simp;omega) _) (by omega)⟩
   ·have hM:Wc n l b=(0,[],aa):=by simp[Wc,fc,hbb];omega
    have HM:=hid hM
    clear hM
    go_wp2_with fail
    refine(zi9 r n l b _ HR.out (by omega)).mono ?_
    rintro e w3 ⟨rfl,q,rfl⟩
    obtain⟨c1,f1⟩:=blk k1.out;have z1:=(ah.1 k1.out).1
    go_wp2_with fail
    exact dW (v:=.tuple #[.agg #[.int .i64 0,.slice ak 0 0],.bool aa]) (by simp[results,sJ,go_sem,c1]) rfl ⟨_,[],_,ak,0,HM.out,rfl,(by repeat (first|(with_reducible exact dU (by assumption))|(with_reducible assumption)|(with_reducible exact bO _ _)|(with_reducible refine eL ?_ gO _)|(with_reducible refine dB ?_ gO _)|(with_reducible refine fZ ?_)|(with_reducible refine below_drewN ?_ _)|exact bO _ _|assumption|exact dU (by assumption))),jv.nil _ _⟩
open Ab
structure zqO where
 room:Int
 items:List Int
 ok:Bool
def AP(room:Int)(l:List Int)(b:Int):zqO:=if kB room l && eF b && decide ((l.length:Int)<room) then ⟨room,l++[b],ae⟩ else ⟨0,[],aa⟩
def zqO.d(t:zqO):DV:=.t [.inr (zoQ t.room t.items),.inl (.v (.bool t.ok))]
theorem zrZ(room:Int)(l:List Int)(b:Int):Wc room l b=((AP room l b).room,(AP room l b).items,(AP room l b).ok):=by
 unfold Wc AP
 split<;>rfl
theorem zi8(room:Int)(l:List Int)(b:Int):(AP room l b).items.length<=16:=by
 unfold AP
 split
 ·rename_i h
  simp only[aE,decide_eq_true_eq] at h
  have:=Zd h.1.1
  simp
  omega
 ·simp
theorem Ta:ji al.prog 218 [.inr [.int,.ints],.inl .int] (λ⟨⟨r,l,_⟩,b,_⟩ K=>K (AP r l b).d):=by
 rintro⟨⟨r,l,_⟩,b,_⟩ K hK w vs hr hg
 replace hK:K (AP r l b).d:=hK
 obtain⟨v,rfl,hv,hl⟩:∃v,vs=#[.agg #[.int .i64 r,v],.int .i64 b]/\pK w v l/\l.length<=1099511627776:=by
  cases yB:vs.toList with
  |nil=>rw[yB] at hr;exact hr.elim
  |cons a rest=>
   rw[yB] at hr
   obtain⟨⟨us,rfl,hu⟩,hr⟩:=hr
   cases rest with
   |nil=>exact hr.elim
   |cons y rest=>
    cases rest with
    |cons _ _=>exact hr.2.elim
    |nil=>
     cases hus:us.toList with
     |nil=>rw[hus] at hu;exact hu.elim
     |cons b1 rest=>
      rw[hus] at hu
      cases rest with
      |nil=>exact hu.2.elim
      |cons v rest=>
       obtain⟨h1,⟨h2,h3⟩,h4⟩:=hu
       cases rest with
       |cons _ _=>exact h4.elim
       |nil=>
        have e1:us=#[.int .i64 r,v]:=bk.1 (by rw[hus];have:b1=.int .i64 r:=h1;rw[this])
        have e2:y=.int .i64 b:=hr.1
        exact⟨v,bk.1 (by rw[yB,e1,e2]),h2,h3⟩
 refine(ZM r v l b w hv hl).mono ?_
 rintro e w' ⟨r',m,ok,a,c,he,rfl,hb,ho⟩
 rw[zrZ] at he
 simp only[Prod.mk.injEq] at he
 obtain⟨rfl,rfl,rfl⟩:=he
 have hle:=zi8 r l b
 refine⟨_,_,rfl,hK,hb,(dj a (AP r l b).items.length c).ownBlock.toList,⟨_,rfl,(dj a (AP r l b).items.length c).ownBlock.toList,[],(eO _).symm,⟨_,rfl,[],_,rfl,⟨rfl,rfl,rfl⟩,_,[],(eO _).symm,⟨ho,?_,rfl⟩,rfl⟩,[],[],rfl,⟨rfl,rfl,rfl⟩,rfl⟩,by cases (dj a (AP r l b).items.length c).ownBlock<;>simp⟩
 show (AP r l b).items.length<=1099511627776
 omega
def LW:CS:=dn [.inr [.int,.ints],.inl .int] (λ⟨⟨r,l,_⟩,b,_⟩ K=>K (AP r l b).d)
theorem QN:bW al.prog 218 LW:=bH Ta
structure zg2 where
 s:yz
 ok:Bool
def mX(s:yz)(b:Int):zg2:=if lK s && eF b && decide ((s.items.length:Int)<s.room) then ⟨⟨s.room,s.items++[b],s.shift,s.left⟩,ae⟩ else ⟨Wh,aa⟩
def zg2.d(t:zg2):DV:=.t [.inr t.s.d,.inl (.v (.bool t.ok))]
def TF:Env:=[(142,oI),(145,ma),(218,LW)]
theorem KN:bg al.prog TF:=aC ⟨nV,mP,QN,trivial⟩
def Mw:DA [.inr [.int,.ints,.int,.int],.inl .int]->(DV->Prop)->Prop:=λ⟨⟨r,l,s,f,_⟩,b,_⟩ K=>K (mX ⟨r,l,s,f⟩ b).d
theorem Td:ji al.prog 154 [.inr [.int,.ints,.int,.int],.inl .int] Mw:=by
 refine bh (TR:=ja) aS aH KN (Rn.fM Tryz.func154) rfl ?_
 dsimp only[DA,HL,Sh.T]
 rintro⟨⟨r,l,s,f,_⟩,b,_⟩ K hK ⟨⟨_,hl,_⟩,_⟩
 dsimp only[Mw] at hK
 replace hl:=gl l hl
 cases hv:lK ⟨r,l,s,f⟩ with
 |false=>
  rw[show mX ⟨r,l,s,f⟩ b=⟨Wh,aa⟩ by simp[mX,hv]] at hK
  exact gW
 |true=>
  have hf:kB r l=ae:=by
   simp only[lK,aE] at hv
   exact hv.1
  by_cases hc:eF b=ae/\(l.length:Int)<r
  ·have e:AP r l b=⟨r,l++[b],ae⟩:=by simp[AP,hf,hc.1,hc.2]
   rw[show mX ⟨r,l,s,f⟩ b=⟨⟨r,l++[b],s,f⟩,ae⟩ by simp[mX,hv,hc.1,hc.2]] at hK
   repeat' (conv=>whnf);first|refine az.mk ?_ ?_;exact gS|refine End.mk ?_|apply gU;exact gA|(refine vg ?_ ?_;focus (simp only[beq_self_eq_true,gQ,eq_self,bL,e];done))|(refine vf ?_ ?_;focus (simp only[beq_self_eq_true,gQ,eq_self,bL,e];done))  | refine gB ?_ ?_<;>intro hb h<;>try exact c8
   all_goals (refine gI hK ?_;repeat' first|exact gR|refine az.mk ?_ ?_)
   all_goals first|exact rfl|(simp[e];done)
  ·have e:AP r l b=⟨0,[],aa⟩:=by
    unfold AP
    rw[if_neg]
    intro h
    simp only[aE,decide_eq_true_eq] at h
    exact hc ⟨h.1.2,h.2⟩
   rw[show mX ⟨r,l,s,f⟩ b=⟨Wh,aa⟩ by
    unfold mX
    rw[if_neg]
    intro h
    simp only[aE,decide_eq_true_eq] at h
    exact hc ⟨h.1.2,h.2⟩] at hK
   repeat' (conv=>whnf);first|refine az.mk ?_ ?_;exact gS|refine End.mk ?_|apply gU;exact gA|(refine vg ?_ ?_;focus (simp only[beq_self_eq_true,gQ,eq_self,bL,e];done))|(refine vf ?_ ?_;focus (simp only[beq_self_eq_true,gQ,eq_self,bL,e];done))  | refine gB ?_ ?_<;>intro hb h<;>try exact c8
   all_goals (refine gI hK ?_;repeat' first|exact gR|refine az.mk ?_ ?_)
   all_goals first|exact rfl|(simp[e];done)
def LY:CS:=dn [.inr [.int,.ints,.int,.int],.inl .int] Mw
theorem QP:bW al.prog 154 LY:=bH Td
def TO:Env:=[(195,rE),(56,mj)]
theorem K7:bg al.prog TO:=aC ⟨qZ,iW,trivial⟩
def XU:Nat->Tr:=λ n=>match n with
 |3=>.op 0 0 (.op 1 0 (.op 3 0 (.op 4 0 (.op 6 0 (.op 9 0 (.op 10 0 (.op 11 0 (.op 12 0 (.fork 2 1 (.fork 5 1 (.op 7 1 (.op 8 1 (.op 13 1 (.op 14 2 (.op 15 2 (.nil)))))) 7 1 (.op 5 1 (.op 8 1 (.op 13 1 (.op 14 2 (.op 15 2 (.nil))))))) 7 1 (.op 2 1 (.op 5 1 (.op 8 1 (.op 13 1 (.op 14 2 (.op 15 2 (.nil))))))))))))))))
 |_=>.nil
def MC:DA [.inr [.int,.ints,.int,.int],.inl .int]->(DV->Prop)->Prop:=λ⟨⟨r,l,s,f,_⟩,b,_⟩ K=>K (mX ⟨r,l,s,f⟩ b).d
theorem Tl:ji al.prog 241 [.inr [.int,.ints,.int,.int],.inl .int] MC:=by
 refine bh (TR:=XU) aS aH K7 (Rn.fM Tryz.func241) rfl ?_
 dsimp only[DA,HL,Sh.T]
 rintro⟨⟨r,l,s,f,_⟩,b,_⟩ K hK ⟨⟨_,hl,_⟩,_⟩
 dsimp only[MC] at hK
 replace hl:=gl l hl
 cases hv:lK ⟨r,l,s,f⟩ with
 |false=>
  rw[show mX ⟨r,l,s,f⟩ b=⟨Wh,aa⟩ by simp[mX,hv]] at hK
  exact gWf
 |true=>
  have hb:=(kC hv).1
  dsimp only at hb
  by_cases hc:eF b=ae/\(l.length:Int)<r
  ·have hbb:=YW hc.1
   rw[show mX ⟨r,l,s,f⟩ b=⟨⟨r,l++[b],s,f⟩,ae⟩ by simp[mX,hv,hc.1,hc.2]] at hK
   repeat' (conv=>whnf);first|refine az.mk ?_ ?_;exact gS|refine Fork.mk ?_ ?_;exact ER|refine End.mk ?_|apply gU;exact gA|refine gB ?_ ?_<;>intro hb h<;>try exact c8
   all_goals first
    |(exfalso;omega)
    |(exfalso;rcases h with h|h<;>first|exact h hbb.1|exact h hbb.2)
    |(exact gF hK)
  ·rw[show mX ⟨r,l,s,f⟩ b=⟨Wh,aa⟩ by
    unfold mX
    rw[if_neg]
    intro h
    simp only[aE,decide_eq_true_eq] at h
    exact hc ⟨h.1.2,h.2⟩] at hK
   repeat' (conv=>whnf);first|refine az.mk ?_ ?_;exact gS|refine Fork.mk ?_ ?_;exact ER|refine End.mk ?_|apply gU;exact gA|refine gB ?_ ?_<;>intro hb h<;>try exact c8
   all_goals first
    |(exact gF hK;done)
    |(exfalso;refine hc ⟨?_,?_⟩;(focus (have hq:(0:Int)<=b/\b<=255:=(by assumption);simp[eF,hq.1,hq.2];done));omega)
def L8:CS:=dn [.inr [.int,.ints,.int,.int],.inl .int] MC
theorem QW:bW al.prog 241 L8:=bH Tl
structure SI where
 p:re
 ok:Bool
def SI.d(x:SI):DV:=.t [.inr x.p.d,.inl (.v (.bool x.ok))]
theorem zdK{s:yz}(h:lK s=ae){b:Int}(hb:eF b=ae)(hr:(s.items.length:Int)<s.room):lK ⟨s.room,s.items++[b],s.shift,s.left⟩=ae:=by
 obtain⟨h1,h2,h3⟩:=kC h
 have hf:kB s.room (s.items++[b])=ae:=by
  simp only[kB,aE,decide_eq_true_eq]
  refine⟨⟨⟨h1.2.2,h1.1⟩,by simp;omega⟩,by simpa [ko,hb] using h2⟩
 simp only[lK,aE] at h ⊢
 exact⟨hf,h.2⟩
theorem zdL{s:yz}{b:Int}(h:¬(eF b=ae/\(s.items.length:Int)<s.room)):mX s b=⟨Wh,aa⟩:=by
 unfold mX
 rw[if_neg]
 intro hh
 simp only[aE,decide_eq_true_eq] at hh
 exact h ⟨hh.1.2,hh.2⟩
def NZ:Env:=[(76,lh),(86,tj),(154,LY)]
theorem FP:bg al.prog NZ:=aC ⟨jS,sM,QP,trivial⟩
def Ey:DA [lR,.inl .int,.inl .int]->(DV->Prop)->Prop:=λ⟨⟨fb,fq,fst,pe,pc,rr,rt,rl,ro,ra,sr,sl,ss,sf,mc,mh,cy,cz,_⟩,g,b,_⟩ K=>az (g=0) <| az (eS ⟨⟨fb,fq,fst⟩,pe,pc,⟨rr,rt,rl,ro,ra⟩,⟨sr,sl,ss,sf⟩,⟨mc,mh,cy,cz⟩⟩=ae) <| Br (eF b && decide ((sl.length:Int)<sr)) (K (SI.d ⟨⟨⟨fb,fq,fst⟩,pe,pc,⟨rr,rt,rl,ro,ra⟩,⟨sr,sl++[b],ss,sf⟩,⟨mc,mh,cy,cz⟩⟩,ae⟩)) (K (SI.d ⟨C9,aa⟩))
theorem Ny:ji al.prog 85 [lR,.inl .int,.inl .int] Ey:=by
 refine bh (TR:=ja) aS aH FP (Rn.fM Tryz.func85) rfl ?_
 dsimp only[DA,HL,Sh.T]
 rintro⟨⟨fb,fq,fst,pe,pc,rr,rt,rl,ro,ra,sr,sl,ss,sf,mc,mh,cy,cz,_⟩,g,b,_⟩ K ⟨hg,hv,hT,hF⟩ ⟨⟨-,-,-,-,-,-,-,Ya,-,-,-,yD,-⟩,-⟩
 replace hg:g=0:=hg
 replace hv:eS ⟨⟨fb,fq,fst⟩,pe,pc,⟨rr,rt,rl,ro,ra⟩,⟨sr,sl,ss,sf⟩,⟨mc,mh,cy,cz⟩⟩=ae:=hv
 subst hg
 replace Ya:=gl rl Ya
 replace yD:=gl sl yD
 obtain⟨p1,p2,p3,p4,p5⟩:=dV hv
 dsimp only at p1 p2 p3 p4 p5
 by_cases hc:eF b=ae/\(sl.length:Int)<sr
 ·have hK:K (SI.d ⟨⟨⟨fb,fq,fst⟩,pe,pc,⟨rr,rt,rl,ro,ra⟩,⟨sr,sl++[b],ss,sf⟩,⟨mc,mh,cy,cz⟩⟩,ae⟩):=hT (by rw[hc.1];simpa using hc.2)
  have e:mX ⟨sr,sl,ss,sf⟩ b=⟨⟨sr,sl++[b],ss,sf⟩,ae⟩:=by simp[mX,p5,hc.1,hc.2]
  have q:eS ⟨⟨fb,fq,fst⟩,pe,pc,⟨rr,rt,rl,ro,ra⟩,⟨sr,sl++[b],ss,sf⟩,⟨mc,mh,cy,cz⟩⟩=ae:=jz p1 p2 p3 p4 (zdK p5 hc.1 hc.2)
  repeat' (conv=>whnf);first|refine az.mk ?_ ?_;exact gS|refine End.mk ?_|apply gU;exact gA|(refine vg ?_ ?_;focus (simp only[beq_self_eq_true,gQ,eq_self,bL,e,q];done))|(refine vf ?_ ?_;focus (simp only[beq_self_eq_true,gQ,eq_self,bL,e,q];done))  | refine gB ?_ ?_<;>intro hb h<;>try exact c8
  all_goals (refine gI hK ?_;repeat' first|exact gR|refine az.mk ?_ ?_)
  all_goals first|exact rfl|(simp[e];done)
 ·have hK:K (SI.d ⟨C9,aa⟩):=hF (by
   cases hb:eF b with
   |false=>rfl
   |true=>simpa using λ h=>hc ⟨hb,h⟩)
  have e:mX ⟨sr,sl,ss,sf⟩ b=⟨Wh,aa⟩:=zdL hc
  repeat' (conv=>whnf);first|refine az.mk ?_ ?_;exact gS|refine End.mk ?_|apply gU;exact gA|(refine vg ?_ ?_;focus (simp only[beq_self_eq_true,gQ,eq_self,bL,e];done))|(refine vf ?_ ?_;focus (simp only[beq_self_eq_true,gQ,eq_self,bL,e];done))  | refine gB ?_ ?_<;>intro hb h<;>try exact c8
  all_goals (refine gI hK ?_;repeat' first|exact gR|refine az.mk ?_ ?_)
  all_goals first|exact rfl|(simp[e];done)
def D6:CS:=dn [lR,.inl .int,.inl .int] Ey
theorem Ki:bW al.prog 85 D6:=bH Ny
def Oc:Env:=[(128,mJ),(92,r9),(241,L8)]
theorem F7:bg al.prog Oc:=aC ⟨lH,qh,QW,trivial⟩
def EI:DA [lR,.inl .int,.inl .int]->(DV->Prop)->Prop:=λ⟨⟨fb,fq,fst,pe,pc,rr,rt,rl,ro,ra,sr,sl,ss,sf,mc,mh,cy,cz,_⟩,g,b,_⟩ K=>az (g=0) <| az (eS ⟨⟨fb,fq,fst⟩,pe,pc,⟨rr,rt,rl,ro,ra⟩,⟨sr,sl,ss,sf⟩,⟨mc,mh,cy,cz⟩⟩=ae) <| Br (eF b && decide ((sl.length:Int)<sr)) (K (SI.d ⟨⟨⟨fb,fq,fst⟩,pe,pc,⟨rr,rt,rl,ro,ra⟩,⟨sr,sl++[b],ss,sf⟩,⟨mc,mh,cy,cz⟩⟩,ae⟩)) (K (SI.d ⟨C9,aa⟩))
theorem NJ:ji al.prog 206 [lR,.inl .int,.inl .int] EI:=by
 refine bh (TR:=ja) aS aH F7 (Rn.fM Tryz.func206) rfl ?_
 dsimp only[DA,HL,Sh.T]
 rintro⟨⟨fb,fq,fst,pe,pc,rr,rt,rl,ro,ra,sr,sl,ss,sf,mc,mh,cy,cz,_⟩,g,b,_⟩ K ⟨hg,hv,hT,hF⟩ ⟨⟨-,-,-,-,-,-,-,Ya,-,-,-,yD,-⟩,-⟩
 replace hg:g=0:=hg
 replace hv:eS ⟨⟨fb,fq,fst⟩,pe,pc,⟨rr,rt,rl,ro,ra⟩,⟨sr,sl,ss,sf⟩,⟨mc,mh,cy,cz⟩⟩=ae:=hv
 subst hg
 replace Ya:=gl rl Ya
 replace yD:=gl sl yD
 obtain⟨p1,p2,p3,p4,p5⟩:=dV hv
 dsimp only at p1 p2 p3 p4 p5
 by_cases hc:eF b=ae/\(sl.length:Int)<sr
 ·have hK:K (SI.d ⟨⟨⟨fb,fq,fst⟩,pe,pc,⟨rr,rt,rl,ro,ra⟩,⟨sr,sl++[b],ss,sf⟩,⟨mc,mh,cy,cz⟩⟩,ae⟩):=hT (by rw[hc.1];simpa using hc.2)
  have e:mX ⟨sr,sl,ss,sf⟩ b=⟨⟨sr,sl++[b],ss,sf⟩,ae⟩:=by simp[mX,p5,hc.1,hc.2]
  have q:eS ⟨⟨fb,fq,fst⟩,pe,pc,⟨rr,rt,rl,ro,ra⟩,⟨sr,sl++[b],ss,sf⟩,⟨mc,mh,cy,cz⟩⟩=ae:=jz p1 p2 p3 p4 (zdK p5 hc.1 hc.2)
  repeat' (conv=>whnf);first|refine az.mk ?_ ?_;exact gS|refine End.mk ?_|apply gU;exact gA|(refine vg ?_ ?_;focus (simp only[beq_self_eq_true,gQ,eq_self,bL,e,q];done))|(refine vf ?_ ?_;focus (simp only[beq_self_eq_true,gQ,eq_self,bL,e,q];done))  | refine gB ?_ ?_<;>intro hb h<;>try exact c8
  all_goals (refine gI hK ?_;repeat' first|exact gR|refine az.mk ?_ ?_)
  all_goals first|exact rfl|(simp[e];done)
 ·have hK:K (SI.d ⟨C9,aa⟩):=hF (by
   cases hb:eF b with
   |false=>rfl
   |true=>simpa using λ h=>hc ⟨hb,h⟩)
  have e:mX ⟨sr,sl,ss,sf⟩ b=⟨Wh,aa⟩:=zdL hc
  repeat' (conv=>whnf);first|refine az.mk ?_ ?_;exact gS|refine End.mk ?_|apply gU;exact gA|(refine vg ?_ ?_;focus (simp only[beq_self_eq_true,gQ,eq_self,bL,e];done))|(refine vf ?_ ?_;focus (simp only[beq_self_eq_true,gQ,eq_self,bL,e];done))  | refine gB ?_ ?_<;>intro hb h<;>try exact c8
  all_goals (refine gI hK ?_;repeat' first|exact gR|refine az.mk ?_ ?_)
  all_goals first|exact rfl|(simp[e];done)
def Eb:CS:=dn [lR,.inl .int,.inl .int] EI
theorem Kn:bW al.prog 206 Eb:=bH NJ
end
section
open Go.RowKit
namespace Ab
theorem zmS{P:Program}{T:oU}{G:Env}{TR:Nat->Tr}{f:FuncId}{fn:Func}{sig:List (Sh⊕List Sh)}{S:DA sig->(DV->Prop)->Prop}(W0:List Nat)(hT:jc P T)(hM:P.follows .mixedOrders=ae)(hG:bg P G)(hfn:P.funcs[f]?=ab fn)(hn:Nat.ble sig.length fn.ntmps=ae)
  (h:∀(x:DA sig) (K:DV->Prop),S x K->bdA sig x->xj sig x λ vs0=>zK T G 0 W0 TR fn vs0 [] λ r hp=>∃d,Pa hp r d/\K d):ji P f sig S:=by
 intro x K hS w vs hr hg
 obtain⟨hb,ha⟩:=Cw (β:=[]) hr
 have hI:Inv ⟨w,[]⟩ [] [] w:=⟨wa.refl _ _,rfl,λ k t e h=>by simp at h,λ i k b h=>by simp[ownB] at h⟩
 refine cR (zFQ (W0:=W0) hT hM ⟨hG,.inr ⟨hg,Gm.nil⟩⟩ hfn hI ha (by rw[tR];exact hn) (qM.1 (h x K hS hb))) ?_
 rintro e w' ⟨v,r,bG,cT,rfl,⟨d,h1,h2⟩,h3,nX,_⟩
 obtain⟨bs,h4,h5⟩:=YM nX h3 h1
 exact⟨d,v,rfl,h2,⟨nX.kp.os,nX.kp.tape,nX.kp.output,nX.kp.size,λ b hb=>nX.kp.block b hb (by simp)⟩,bs,h4,h5⟩
def zus(W0:List Nat)(T:oU)(G:Env)(TR:Nat->Tr)(fn:Func):CS:=
 { S:=λ xs hp K=>az (Nat.ble xs.length fn.ntmps=ae) <| JD (SO hp) λ n=>zK T G n W0 TR fn xs hp K,C4:=λ _=>ak }
theorem zmU{P:Program}{W0:List Nat}{T:oU}{G:Env}{TR:Nat->Tr}{f:FuncId}{fn:Func}(hT:jc P T)(hM:P.follows .mixedOrders=ae)(hG:bg P G)(hfn:P.funcs[f]?=ab fn)(fc:(P.funcs[f]?).map (λ fn=>(fn.name == "runtime.NumGoroutine",fn.body.isNone))=ab (aa,aa)):bW P f (zus W0 T G TR fn):=by
 refine⟨fc,λ xs hp K hS cx β w vs hI gl ha=>?_⟩
 obtain⟨h1,h2⟩:=ba.1 hS
 have h3:=pX.1 h2
 rw[Cy] at h3
 refine cR (zFQ (W0:=W0) hT hM ⟨hG,.inr gl⟩ hfn hI ha h1 h3) ?_
 rintro e w' ⟨v,r,bG,cT,rfl,h4,h5,h6,h7⟩
 refine⟨v,r,bG,cT,rfl,h4,h5,⟨h6,λ k e he=>?_,λ k b hb=>(h7.om k b hb).imp And.right id,h7.size,h7.len,λ k _ hn=>(hn trivial).elim,λ b hb hn=>h7.C4 b hb λ k=>hn k trivial⟩⟩
 exact h7.ext k e (by rw[<-hI.len];exact(aO.1 he).1) he
end Ab
open Go.RowKit
open Ab
abbrev K3:=Int×Int×Int
def kinds:List K3:=[(0,6,4),(1,4,1),(2,12,1),(3,2,2),(4,0,8),(5,1,0)]
def Ap(n s r:Int)(m:Bool):Bool:=if n=6 then decide (2<=s % 16) else if n=4 then decide (r=1) else if n=12 then decide (r=2) else if n=2 then decide (s/32 % 2=1) else if n=0 then m else aa
def Ux(b e:Int):Bool:=if b=4 then decide (e/4 % 2=1) else if b=1 then decide (e % 2=1) else if b=2 then decide (e/2 % 2=1) else if b=8 then decide (e/8 % 2=1) else aa
def mW(s r:Int)(m:Bool)(e:Int)(k:Nat):List K3:=(kinds.take k).filter λ x=>Ux x.2.2 e && Ap x.2.1 s r m
theorem zrt:∀n:Fin 128,decide (aL.wrap (aZ aL.bits (n.val:Int) &&& aZ aL.bits 14).toNat=0)=decide ((n.val:Int) % 16<2):=by decide +kernel
theorem zru:∀n:Fin 128,decide (aL.wrap (aZ aL.bits (n.val:Int) &&& aZ aL.bits 32).toNat=0)=decide ((n.val:Int)/32 % 2=0):=by decide +kernel
theorem zvu:∀n:Fin 16,(decide (aL.wrap (aZ aL.bits (n.val:Int) &&& aZ aL.bits 4).toNat=0)=!Ux 4 n.val)/\(decide (aL.wrap (aZ aL.bits (n.val:Int) &&& aZ aL.bits 1).toNat=0)=!Ux 1 n.val)/\(decide (aL.wrap (aZ aL.bits (n.val:Int) &&& aZ aL.bits 2).toNat=0)=!Ux 2 n.val)/\(decide (aL.wrap (aZ aL.bits (n.val:Int) &&& aZ aL.bits 8).toNat=0)=!Ux 8 n.val)/\(decide (aL.wrap (aZ aL.bits (n.val:Int) &&& aZ aL.bits 0).toNat=0)=!Ux 0 n.val):=by decide +kernel
theorem zi3(s r:Int)(m:Bool)(e:Int)(k:Nat):(mW s r m e k).length<=6:=by
 refine bD (List.length_filter_le _ _) ?_
 rw[List.length_take]
 simp[kinds]
 omega
theorem zeX(s r:Int)(m:Bool)(e:Int){k:Nat}(hk:k<=6):∀x∈mW s r m e k,x.1<k:=by
 intro x hx
 have:=(List.mem_filter.1 hx).1
 have h:∀k:Fin 7,∀x∈kinds.take k.val,x.1<(k.val:Int):=by decide
 exact h ⟨k,by omega⟩ x this
variable{s r e:Int}{m:Bool}
theorem zi2(h:0<=s/\s<=127/\0<=r/\r<=2/\0<=e/\e<=15):JA s r m e=(match mW s r m e 6 with
  |[]=>1
  |g::_=>g.2.1):=by
 unfold JA
 rw[if_pos h]
 have h0:Ux 0 e=aa:=by simp[Ux]
 have h4:Ux 4 e=decide (e/4 % 2=1):=by simp[Ux]
 have h1:Ux 1 e=decide (e % 2=1):=by simp[Ux]
 have h2:Ux 2 e=decide (e/2 % 2=1):=by simp[Ux]
 have h8:Ux 8 e=decide (e/8 % 2=1):=by simp[Ux]
 have p6:Ap 6 s r m=decide (2<=s % 16):=by simp[Ap]
 have p4:Ap 4 s r m=decide (r=1):=by simp[Ap]
 have p12:Ap 12 s r m=decide (r=2):=by simp[Ap]
 have p2:Ap 2 s r m=decide (s/32 % 2=1):=by simp[Ap]
 have p0:Ap 0 s r m=m:=by simp[Ap]
 have p1:Ap 1 s r m=aa:=by simp[Ap]
 simp only[mW,kinds,List.take_succ_cons,List.take_zero,List.filter_cons,List.filter_nil,h0,h1,h2,h4,h8,p0,p1,p2,p4,p6,p12]
 by_cases a1:e/4 % 2=1/\2<=s % 16
 ·simp[a1]
 by_cases a2:e % 2=1/\r=1
 ·simp[a1,a2]
 by_cases a3:e % 2=1/\r=2
 ·simp[a1,a3]
 by_cases a4:e/2 % 2=1/\s/32 % 2=1
 ·simp[a1,a2,a3,a4]
 by_cases a5:e/8 % 2=1/\m=ae
 ·simp[a1,a2,a3,a4,a5]
 ·simp[a1,a2,a3,a4,a5]
variable{x:K3}
theorem xr(k:Nat)(hx:kinds[k]?=ab x)(h1:Ux x.2.2 e=ae)(h2:Ap x.2.1 s r m=ae):mW s r m e k++[x]=mW s r m e (k+1):=by
 simp[mW,dO,hx,h1,h2]
theorem CC(k:Nat)(hx:kinds[k]?=ab x)(h:(Ux x.2.2 e && Ap x.2.1 s r m)=aa):mW s r m e k=mW s r m e (k+1):=by
 unfold mW
 rw[dO,hx,List.filter_append,Option.toList_some,List.filter_cons,h]
 simp
theorem UT{l:List K3}{a b:Int}(hr:∀y∈l,y.1<x.1)(ha:a=l.length)(hb:0<=b)(kU:b<=l.length):¬((l++[x]).getD a.toNat (0,0,0)).1<((l++[x]).getD b.toNat (0,0,0)).1:=by
 have e:(l++[x]).getD a.toNat (0,0,0)=x:=by subst ha;simp
 rw[e]
 obtain⟨n,rfl⟩:=gn hb
 have hn:n<=l.length:=by omega
 rw[je]
 by_cases h:n<l.length
 ·have:(l++[x]).getD n (0,0,0)=l[n]:=by simp[my,List.getElem?_append,h]
  rw[this]
  have:=hr _ (List.getElem_mem h)
  omega
 ·have:n=l.length:=by omega
  subst this
  simp
abbrev d3:K3:=(0,0,0)
variable{n:Nat}
theorem Vt{L:List K3}{i j:Int}(hL:L.length=n+1)(hi:0<=i/\i<n)(hj:0<=j/\j<n):((L.set i.toNat (L.getD j.toNat d3)).set j.toNat (L.getD i.toNat d3)).length=n+1/\((L.set i.toNat (L.getD j.toNat d3)).set j.toNat (L.getD i.toNat d3)).getD n d3=L.getD n d3:=by
 refine⟨by simp[hL],?_⟩
 simp only[dq]
 rw[cd (by omega),cd (by omega)]
theorem QI(g:K3)(l:List K3):(((g::l).set 0 ((g::l).getD (((g::l).length:Int)-1).toNat d3)).set (((g::l).length:Int)-1).toNat ((g::l).getD 0 d3)).length=l.length+1/\(((g::l).set 0 ((g::l).getD (((g::l).length:Int)-1).toNat d3)).set (((g::l).length:Int)-1).toNat ((g::l).getD 0 d3)).getD l.length d3=g:=by
 have e:(((g::l).length:Int)-1).toNat=l.length:=by simp
 rw[e]
 refine⟨by simp,?_⟩
 simp[dq]
def I0:Env:=[]
theorem Ch:bg al.prog I0:=aC trivial
def Ai:DA [.inl .int,.inl .int,.inl .int,.inl .bool]->(DV->Prop)->Prop:=λ⟨n,s,r,m,_⟩ K=>az (0<=s/\s<=127) <| K (.l (.v (.bool (Ap n s r m))))
theorem IJ:ji al.prog 157 [.inl .int,.inl .int,.inl .int,.inl .bool] Ai:=by
 refine bh (TR:=ja) aS aH Ch (Rn.fM Tryz.func157) rfl ?_
 rintro⟨(n:Int),(s:Int),(r:Int),(m:Bool),_⟩ K ⟨hs,hK⟩ _
 replace hK:K (.l (.v (.bool (Ap n s r m)))):=hK
 replace hs:0<=s/\s<=127:=hs
 obtain⟨q,rfl⟩:∃q:Fin 128,(q.val:Int)=s:=⟨⟨s.toNat,by omega⟩,by simp;omega⟩
 have b1:=zrt q
 have b2:=zru q
 repeat' (conv=>whnf);first|refine az.mk ?_ ?_;exact gS|refine End.mk ?_|apply gU;exact gA|refine gB ?_ ?_<;>intro hb h<;>try exact c8
 all_goals (refine gI hK ?_;repeat' first|exact gR|refine az.mk ?_ ?_)
 all_goals
  clear hK
  subst_vars
  simp_all [Ap]
  try (rw[<-decide_not];exact decide_eq_decide.2 (by omega))
def zZ:CS:=dn [.inl .int,.inl .int,.inl .int,.inl .bool] Ai
theorem FD:bW al.prog 157 zZ:=bH IJ
def BQ:Env:=[]
theorem I1:bg al.prog BQ:=aC trivial
def HH:CS:=Jt jV BQ ja Tryz.f156
theorem M9:bW al.prog 156 HH:=iy aS aH I1 (Rn.fM Tryz.func156)
def vY:Env:=[]
theorem Ci:bg al.prog vY:=aC trivial
def oT:CS:=Jt jV vY ja Tryz.f159
theorem pj:bW al.prog 159 oT:=iy aS aH Ci (Rn.fM Tryz.func159)
def uT:Env:=[]
theorem AA:bg al.prog uT:=aC trivial
def Jm:Nat->Tr:=λ n=>match n with
 |1=>.op 0 0 (.op 1 0 (.op 2 0 (.op 3 0 (.op 4 0 (.op 5 0 (.op 6 1 (.op 7 1 (.op 8 1 (.op 9 1 (.op 10 1 (.op 11 2 (.nil))))))))))))
 |_=>.nil
def qY:CS:=Jt jV uT Jm Tryz.f265
theorem sW:bW al.prog 265 qY:=iy aS aH AA (Rn.fM Tryz.func265)
def uV:Env:=[]
theorem AD:bg al.prog uV:=aC trivial
def Jo:Nat->Tr:=λ n=>match n with
 |0=>.op 0 0 (.op 1 0 (.op 2 0 (.op 3 0 (.op 4 0 (.op 5 0 (.op 6 0 (.op 8 0 (.op 9 0 (.op 10 0 (.fork 7 1 (.op 11 1 (.op 12 1 (.op 13 1 (.op 14 1 (.op 15 2 (.nil)))))) 11 1 (.op 7 1 (.op 12 1 (.op 13 1 (.op 14 1 (.op 15 2 (.nil))))))))))))))))
 |_=>.nil
def nW:CS:=zus [0] jV uV Jo Tryz.f268
theorem oh:bW al.prog 268 nW:=zmU aS aH AD (Rn.fM Tryz.func268) gK
def uU:Env:=[]
theorem AB:bg al.prog uU:=aC trivial
def Jn:Nat->Tr:=λ n=>match n with
 |0=>.op 0 0 (.op 1 0 (.op 2 0 (.op 3 0 (.op 4 1 (.op 5 1 (.op 6 1 (.op 7 1 (.op 8 1 (.op 9 2 (.nil))))))))))
 |_=>.nil
def xX:CS:=Jt jV uU Jn Tryz.f267
theorem Dg:bW al.prog 267 xX:=iy aS aH AB (Rn.fM Tryz.func267)
def vZ:Env:=[]
theorem Cj:bg al.prog vZ:=aC trivial
def z8:CS:=Jt jV vZ ja Tryz.f266
theorem FE:bW al.prog 266 z8:=iy aS aH Cj (Rn.fM Tryz.func266)
def Y7:Env:=[(265,qY),(268,nW)]
theorem ZX:bg al.prog Y7:=aC ⟨sW,oh,trivial⟩
def zhK:CS:=Jt jV Y7 ja Tryz.f221
theorem zes:bW al.prog 221 zhK:=iy aS aH ZX (Rn.fM Tryz.func221)
def Qh:Env:=[(265,qY),(268,nW)]
theorem TC:bg al.prog Qh:=aC ⟨sW,oh,trivial⟩
def YY:CS:=Jt jV Qh ja Tryz.f222
theorem ZR:bW al.prog 222 YY:=iy aS aH TC (Rn.fM Tryz.func222)
def Qg:Env:=[(267,xX),(159,oT),(221,zhK)]
theorem TB:bg al.prog Qg:=aC ⟨Dg,pj,zes,trivial⟩
def YX:CS:=Jt jV Qg ja Tryz.f158
theorem ZQ:bW al.prog 158 YX:=iy aS aH TB (Rn.fM Tryz.func158)
def U4:Env:=[(159,oT),(268,nW),(222,YY),(266,z8)]
theorem Xw:bg al.prog U4:=aC ⟨pj,oh,ZR,FE,trivial⟩
def zdh:CS:=Jt jV U4 ja Tryz.f160
theorem zbs:bW al.prog 160 zdh:=iy aS aH Xw (Rn.fM Tryz.func160)
def ZY:Env:=[(156,HH),(157,zZ),(158,YX),(159,oT),(160,zdh)]
theorem RH:bg al.prog ZY:=aC ⟨M9,FD,ZQ,pj,zbs,trivial⟩
def Vn:DA [.inl .int,.inl .int,.inl .bool,.inl .int]->(DV->Prop)->Prop:=λ⟨s,r,m,e,_⟩ K=>K (.l (.v (.int .i64 (JA s r m e))))
theorem ZU:ji al.prog 88 [.inl .int,.inl .int,.inl .bool,.inl .int] Vn:=by
 refine bh (TR:=ja) aS aH RH (Rn.fM Tryz.func88) rfl ?_
 rintro⟨(s:Int),(r:Int),(m:Bool),(e:Int),_⟩ K hK _
 dsimp only[Vn] at hK
 repeat' (conv=>whnf);first|refine az.mk ?_ ?_;exact gS|refine Fork.mk ?_ ?_;exact ER|refine End.mk ?_|apply gU;exact gA|refine gB ?_ ?_<;>intro hb h<;>try exact c8
 iterate 6 ((refine gI hK ?_;repeat' first|exact gR|refine az.mk ?_ ?_);(simp[JA];omega))
 have hrg:0<=s/\s<=127/\0<=r/\r<=2/\0<=e/\e<=15:=by omega
 rw[zi2 hrg] at hK
 obtain⟨qe,rfl⟩:∃q:Fin 16,(q.val:Int)=e:=⟨⟨e.toNat,by omega⟩,by simp;omega⟩
 obtain⟨b4,b1,b2,b8,b0⟩:=zvu qe
 repeat' (conv=>whnf);first|refine az.mk ?_ ?_;exact gS|refine Fork.mk ?_ ?_;exact ER|refine End.mk ?_|apply gU;exact gA|refine gB ?_ ?_<;>intro hb h<;>try exact c8
 refine iK.inv {x:Nat×List K3 // x.1<=6/\x.2=mW s r m qe.val x.1} (λ⟨(k,_),_⟩=>[(34,.j),(37,.l (.v (.int .i64 k)))]) (λ⟨(_,l),_⟩=>[(0,.r 0 211 (.k3 l)),(1,.b [.s 0 0] 209)]) (λ⟨(k,_),_⟩=>6-k) ⟨(0,[]),by omega,rfl⟩ [0,1,2] ?_ ?_
 ·repeat' first|refine az.mk ?_ ?_;exact gV|exact aV
 rintro⟨⟨k,l⟩,hk,hl⟩
 replace hk:k<=6:=hk
 replace hl:l=mW s r m qe.val k:=hl
 have hlen:l.length<=6:=by rw[hl];exact zi3 _ _ _ _ _
 have hrk:∀x∈l,x.1<k:=by rw[hl];exact zeX _ _ _ _ hk
 have Pl:k=0\/k=1\/k=2\/k=3\/k=4\/k=5\/k=6:=by omega
 rcases Pl with rfl|rfl|rfl|rfl|rfl|rfl|rfl
 ·((repeat' ((conv=>whnf);first|refine az.mk ?_ ?_;exact gS|refine End.mk ?_|apply gU;exact gA|refine gB ?_ ?_<;>intro hb h<;>try exact c8));all_goals first|(refine iK.it 2 ?_;(repeat' ((conv=>whnf);first|refine az.mk ?_ ?_;exact gS|refine End.mk ?_|apply gU;exact gA|refine gB ?_ ?_<;>intro hb h<;>try exact c8));all_goals first|(exfalso;refine UT (x:=(0,6,4)) (l:=l) hrk ?_ ?_ ?_ (by assumption)<;>(simp only[EL.len,EL.sz,EL.take,EL.drop,pM,la,ln,lc,ld,lt,ls,lna] at *;omega))|(exfalso;simp only[EL.len,EL.sz,EL.take,EL.drop,pM,la,ln,lc,ld,lt,ls,lna] at *;omega)|(have hn:l++[(0,6,4)]=mW s r m qe.val 1:=(by rw[hl];exact xr (s:=s) (r:=r) (m:=m) (e:=qe.val) (1-1) (x:=(0,6,4)) rfl (by clear hK hl;simp_all) (by clear hK hl;simp_all));(refine ao ⟨(1,l++[(0,6,4)]),by omega,hn⟩ (ao [0,1,2] (aM ?_ ?_)));(focus (show (6-1:Nat)<6-(1-1);omega));(repeat' first|refine az.mk ?_ ?_;exact gV|exact aV);done))|(have hn:l=mW s r m qe.val 1:=(by rw[hl];exact CC (s:=s) (r:=r) (m:=m) (e:=qe.val) (1-1) (x:=(0,6,4)) rfl (by clear hK hl;simp_all));(refine ao ⟨(1,l),by omega,hn⟩ (ao [0,1,2] (aM ?_ ?_)));(focus (show (6-1:Nat)<6-(1-1);omega));(repeat' first|refine az.mk ?_ ?_;exact gV|exact aV);done))
 ·((repeat' ((conv=>whnf);first|refine az.mk ?_ ?_;exact gS|refine End.mk ?_|apply gU;exact gA|refine gB ?_ ?_<;>intro hb h<;>try exact c8));all_goals first|(refine iK.it 2 ?_;(repeat' ((conv=>whnf);first|refine az.mk ?_ ?_;exact gS|refine End.mk ?_|apply gU;exact gA|refine gB ?_ ?_<;>intro hb h<;>try exact c8));all_goals first|(exfalso;refine UT (x:=(1,4,1)) (l:=l) hrk ?_ ?_ ?_ (by assumption)<;>(simp only[EL.len,EL.sz,EL.take,EL.drop,pM,la,ln,lc,ld,lt,ls,lna] at *;omega))|(exfalso;simp only[EL.len,EL.sz,EL.take,EL.drop,pM,la,ln,lc,ld,lt,ls,lna] at *;omega)|(have hn:l++[(1,4,1)]=mW s r m qe.val 2:=(by rw[hl];exact xr (s:=s) (r:=r) (m:=m) (e:=qe.val) (2-1) (x:=(1,4,1)) rfl (by clear hK hl;simp_all) (by clear hK hl;simp_all));(refine ao ⟨(2,l++[(1,4,1)]),by omega,hn⟩ (ao [0,1,2] (aM ?_ ?_)));(focus (show (6-2:Nat)<6-(2-1);omega));(repeat' first|refine az.mk ?_ ?_;exact gV|exact aV);done))|(have hn:l=mW s r m qe.val 2:=(by rw[hl];exact CC (s:=s) (r:=r) (m:=m) (e:=qe.val) (2-1) (x:=(1,4,1)) rfl (by clear hK hl;simp_all));(refine ao ⟨(2,l),by omega,hn⟩ (ao [0,1,2] (aM ?_ ?_)));(focus (show (6-2:Nat)<6-(2-1);omega));(repeat' first|refine az.mk ?_ ?_;exact gV|exact aV);done))
 ·((repeat' ((conv=>whnf);first|refine az.mk ?_ ?_;exact gS|refine End.mk ?_|apply gU;exact gA|refine gB ?_ ?_<;>intro hb h<;>try exact c8));all_goals first|(refine iK.it 2 ?_;(repeat' ((conv=>whnf);first|refine az.mk ?_ ?_;exact gS|refine End.mk ?_|apply gU;exact gA|refine gB ?_ ?_<;>intro hb h<;>try exact c8));all_goals first|(exfalso;refine UT (x:=(2,12,1)) (l:=l) hrk ?_ ?_ ?_ (by assumption)<;>(simp only[EL.len,EL.sz,EL.take,EL.drop,pM,la,ln,lc,ld,lt,ls,lna] at *;omega))|(exfalso;simp only[EL.len,EL.sz,EL.take,EL.drop,pM,la,ln,lc,ld,lt,ls,lna] at *;omega)|(have hn:l++[(2,12,1)]=mW s r m qe.val 3:=(by rw[hl];exact xr (s:=s) (r:=r) (m:=m) (e:=qe.val) (3-1) (x:=(2,12,1)) rfl (by clear hK hl;simp_all) (by clear hK hl;simp_all));(refine ao ⟨(3,l++[(2,12,1)]),by omega,hn⟩ (ao [0,1,2] (aM ?_ ?_)));(focus (show (6-3:Nat)<6-(3-1);omega));(repeat' first|refine az.mk ?_ ?_;exact gV|exact aV);done))|(have hn:l=mW s r m qe.val 3:=(by rw[hl];exact CC (s:=s) (r:=r) (m:=m) (e:=qe.val) (3-1) (x:=(2,12,1)) rfl (by clear hK hl;simp_all));(refine ao ⟨(3,l),by omega,hn⟩ (ao [0,1,2] (aM ?_ ?_)));(focus (show (6-3:Nat)<6-(3-1);omega));(repeat' first|refine az.mk ?_ ?_;exact gV|exact aV);done))
 ·((repeat' ((conv=>whnf);first|refine az.mk ?_ ?_;exact gS|refine End.mk ?_|apply gU;exact gA|refine gB ?_ ?_<;>intro hb h<;>try exact c8));all_goals first|(refine iK.it 2 ?_;(repeat' ((conv=>whnf);first|refine az.mk ?_ ?_;exact gS|refine End.mk ?_|apply gU;exact gA|refine gB ?_ ?_<;>intro hb h<;>try exact c8));all_goals first|(exfalso;refine UT (x:=(3,2,2)) (l:=l) hrk ?_ ?_ ?_ (by assumption)<;>(simp only[EL.len,EL.sz,EL.take,EL.drop,pM,la,ln,lc,ld,lt,ls,lna] at *;omega))|(exfalso;simp only[EL.len,EL.sz,EL.take,EL.drop,pM,la,ln,lc,ld,lt,ls,lna] at *;omega)|(have hn:l++[(3,2,2)]=mW s r m qe.val 4:=(by rw[hl];exact xr (s:=s) (r:=r) (m:=m) (e:=qe.val) (4-1) (x:=(3,2,2)) rfl (by clear hK hl;simp_all) (by clear hK hl;simp_all));(refine ao ⟨(4,l++[(3,2,2)]),by omega,hn⟩ (ao [0,1,2] (aM ?_ ?_)));(focus (show (6-4:Nat)<6-(4-1);omega));(repeat' first|refine az.mk ?_ ?_;exact gV|exact aV);done))|(have hn:l=mW s r m qe.val 4:=(by rw[hl];exact CC (s:=s) (r:=r) (m:=m) (e:=qe.val) (4-1) (x:=(3,2,2)) rfl (by clear hK hl;simp_all));(refine ao ⟨(4,l),by omega,hn⟩ (ao [0,1,2] (aM ?_ ?_)));(focus (show (6-4:Nat)<6-(4-1);omega));(repeat' first|refine az.mk ?_ ?_;exact gV|exact aV);done))
 ·((repeat' ((conv=>whnf);first|refine az.mk ?_ ?_;exact gS|refine End.mk ?_|apply gU;exact gA|refine gB ?_ ?_<;>intro hb h<;>try exact c8));all_goals first|(refine iK.it 2 ?_;(repeat' ((conv=>whnf);first|refine az.mk ?_ ?_;exact gS|refine End.mk ?_|apply gU;exact gA|refine gB ?_ ?_<;>intro hb h<;>try exact c8));all_goals first|(exfalso;refine UT (x:=(4,0,8)) (l:=l) hrk ?_ ?_ ?_ (by assumption)<;>(simp only[EL.len,EL.sz,EL.take,EL.drop,pM,la,ln,lc,ld,lt,ls,lna] at *;omega))|(exfalso;simp only[EL.len,EL.sz,EL.take,EL.drop,pM,la,ln,lc,ld,lt,ls,lna] at *;omega)|(have hn:l++[(4,0,8)]=mW s r m qe.val 5:=(by rw[hl];exact xr (s:=s) (r:=r) (m:=m) (e:=qe.val) (5-1) (x:=(4,0,8)) rfl (by clear hK hl;simp_all) (by clear hK hl;simp_all));(refine ao ⟨(5,l++[(4,0,8)]),by omega,hn⟩ (ao [0,1,2] (aM ?_ ?_)));(focus (show (6-5:Nat)<6-(5-1);omega));(repeat' first|refine az.mk ?_ ?_;exact gV|exact aV);done))|(have hn:l=mW s r m qe.val 5:=(by rw[hl];exact CC (s:=s) (r:=r) (m:=m) (e:=qe.val) (5-1) (x:=(4,0,8)) rfl (by clear hK hl;simp_all));(refine ao ⟨(5,l),by omega,hn⟩ (ao [0,1,2] (aM ?_ ?_)));(focus (show (6-5:Nat)<6-(5-1);omega));(repeat' first|refine az.mk ?_ ?_;exact gV|exact aV);done))
 ·have e0:Ux 0 qe.val=aa:=by simp[Ux]
  ((repeat' ((conv=>whnf);first|refine az.mk ?_ ?_;exact gS|refine End.mk ?_|apply gU;exact gA|refine gB ?_ ?_<;>intro hb h<;>try exact c8));all_goals first|(refine iK.it 2 ?_;(repeat' ((conv=>whnf);first|refine az.mk ?_ ?_;exact gS|refine End.mk ?_|apply gU;exact gA|refine gB ?_ ?_<;>intro hb h<;>try exact c8));all_goals first|(exfalso;refine UT (x:=(5,1,0)) (l:=l) hrk ?_ ?_ ?_ (by assumption)<;>(simp only[EL.len,EL.sz,EL.take,EL.drop,pM,la,ln,lc,ld,lt,ls,lna] at *;omega))|(exfalso;simp only[EL.len,EL.sz,EL.take,EL.drop,pM,la,ln,lc,ld,lt,ls,lna] at *;omega)|(have hn:l++[(5,1,0)]=mW s r m qe.val 6:=(by rw[hl];exact xr (s:=s) (r:=r) (m:=m) (e:=qe.val) (6-1) (x:=(5,1,0)) rfl (by clear hK hl;simp_all) (by clear hK hl;simp_all));(refine ao ⟨(6,l++[(5,1,0)]),by omega,hn⟩ (ao [0,1,2] (aM ?_ ?_)));(focus (show (6-6:Nat)<6-(6-1);omega));(repeat' first|refine az.mk ?_ ?_;exact gV|exact aV);done))|(have hn:l=mW s r m qe.val 6:=(by rw[hl];exact CC (s:=s) (r:=r) (m:=m) (e:=qe.val) (6-1) (x:=(5,1,0)) rfl (by clear hK hl;simp_all));(refine ao ⟨(6,l),by omega,hn⟩ (ao [0,1,2] (aM ?_ ?_)));(focus (show (6-6:Nat)<6-(6-1);omega));(repeat' first|refine az.mk ?_ ?_;exact gV|exact aV);done))
 ·rw[<-hl] at hK
  cases l with
  |nil=>
   exact gWf
  |cons g l=>
   repeat' (conv=>whnf);first|refine az.mk ?_ ?_;exact gS|refine Fork.mk ?_ ?_;exact ER|refine End.mk ?_|apply gU;exact gA|refine gB ?_ ?_<;>intro hb h<;>try exact c8
   refine iK.inv {x:Int×List K3 // (0<=x.1/\x.1<=l.length)/\x.2.length=l.length+1/\x.2.getD l.length d3=g} (λ⟨(i,_),_⟩=>[(7,.l (.v (.int .i64 i)))]) (λ⟨(_,L),_⟩=>[(0,.r 0 211 (.k3 L))]) (λ⟨(i,_),_⟩=>((l.length:Int)-i).toNat) ⟨(0,((g::l).set 0 ((g::l).getD (((g::l).length:Int)-1).toNat d3)).set (((g::l).length:Int)-1).toNat ((g::l).getD 0 d3)),⟨Int.le_refl 0,by omega⟩,(QI g l).1,(QI g l).2⟩ [0,1,2] ?_ ?_
   ·repeat' first|refine az.mk ?_ ?_;exact gV|exact aV
   rintro⟨⟨i,L⟩,hi,hL,hg⟩
   replace hi:0<=i/\i<=l.length:=hi
   replace hL:L.length=l.length+1:=hL
   replace hg:L.getD l.length d3=g:=hg
   simp only[bP] at hlen
   repeat' (conv=>whnf);first|refine az.mk ?_ ?_;exact gS|refine Fork.mk ?_ ?_;exact ER|refine End.mk ?_|apply gU;exact gA|refine gB ?_ ?_<;>intro hb h<;>try exact c8
   all_goals first
    |(have hsw:=Vt (n:=l.length) (L:=L) (i:=i) (j:=2*i+1+1) hL (by simp only[bP,EL.len] at *;omega) (by simp only[bP,EL.len] at *;omega);(refine ao ⟨(2*i+1+1,(L.set i.toNat (L.getD (dT (2*i+1+1)) d3)).set (dT (2*i+1+1)) (L.getD i.toNat d3)),(by simp only[bP,EL.len] at *;omega),hsw.1,hsw.2.trans hg⟩ (ao [0,1,2] (aM ?_ ?_)));(focus (show ((l.length:Int)-(2*i+1+1)).toNat<((l.length:Int)-i).toNat;simp only[bP,EL.len] at *;omega));(repeat' first|refine az.mk ?_ ?_;exact gV|exact aV);done)
    |(have hsw:=Vt (n:=l.length) (L:=L) (i:=i) (j:=2*i+1) hL (by simp only[bP,EL.len] at *;omega) (by simp only[bP,EL.len] at *;omega);(refine ao ⟨(2*i+1,(L.set i.toNat (L.getD (dT (2*i+1)) d3)).set (dT (2*i+1)) (L.getD i.toNat d3)),(by simp only[bP,EL.len] at *;omega),hsw.1,hsw.2.trans hg⟩ (ao [0,1,2] (aM ?_ ?_)));(focus (show ((l.length:Int)-(2*i+1)).toNat<((l.length:Int)-i).toNat;simp only[bP,EL.len] at *;omega));(repeat' first|refine az.mk ?_ ?_;exact gV|exact aV);done)
    |skip
   all_goals
    (refine gI hK ?_;repeat' first|exact gR|refine az.mk ?_ ?_)
    show (L.getD ((L.length:Int)-1).toNat d3).2.1=g.2.1
    rw[show ((L.length:Int)-1).toNat=l.length by omega,hg]
def U0:CS:=dn [.inl .int,.inl .int,.inl .bool,.inl .int] Vn
theorem Xn:bW al.prog 88 U0:=bH ZU
def zqR(b:Int):Bool:=b == 1 || b == 2 || b == 4 || b == 8 || b == 32
theorem zmM{b:Int}(h:zqR b=ae):b=1\/b=2\/b=4\/b=8\/b=32:=by
 simp[zqR] at h
 omega
def XA:Env:=[]
theorem Oh:bg al.prog XA:=aC trivial
def QB:DA [.inl .int,.inl .int]->(DV->Prop)->Prop:=λ⟨n,b,_⟩ K=>az (0<=n/\n<=127) <| az (zqR b=ae) <| K (.l (.v (.bool (decide (n/b % 2=1)))))
theorem Xs:ji al.prog 183 [.inl .int,.inl .int] QB:=by
 refine bh (TR:=ja) aS aH Oh (Rn.fM Tryz.func183) rfl ?_
 rintro⟨(n:Int),(b:Int),_⟩ K ⟨hs,hb,hK⟩ _
 replace hK:K (.l (.v (.bool (decide (n/b % 2=1))))):=hK
 replace hs:0<=n/\n<=127:=hs
 replace hb:b=1\/b=2\/b=4\/b=8\/b=32:=zmM hb
 rcases hb with rfl|rfl|rfl|rfl|rfl
 all_goals
  exact gW
def uf:CS:=dn [.inl .int,.inl .int] QB
theorem rF:bW al.prog 183 uf:=bH Xs
def ZZ:Env:=[(56,mj),(183,uf)]
theorem R6:bg al.prog ZZ:=aC ⟨iW,rF,trivial⟩
def Vo:DA [.inl .int,.inl .int,.inl .bool,.inl .int]->(DV->Prop)->Prop:=λ⟨s,r,m,e,_⟩ K=>K (.l (.v (.int .i64 (JA s r m e))))
theorem ZV:ji al.prog 201 [.inl .int,.inl .int,.inl .bool,.inl .int] Vo:=by
 refine bh (TR:=ja) aS aH R6 (Rn.fM Tryz.func201) rfl ?_
 rintro⟨(s:Int),(r:Int),(m:Bool),(e:Int),_⟩ K hK _
 dsimp only[Vo] at hK
 repeat' (conv=>whnf);first|refine az.mk ?_ ?_;exact gS|refine End.mk ?_|apply gU;exact gA|refine gB ?_ ?_<;>intro hb h<;>try exact c8
 ·(refine gI hK ?_;repeat' first|exact gR|refine az.mk ?_ ?_)
  clear hK
  simp_all [JA]
  omega
 ·(refine gI hK ?_;repeat' first|exact gR|refine az.mk ?_ ?_)
  clear hK
  simp_all [JA]
  omega
 ·(refine gI hK ?_;repeat' first|exact gR|refine az.mk ?_ ?_)
  clear hK
  simp_all [JA]
  omega
 have a1:(0:Int)<=s/\s<=(127:Int):=by assumption
 have a2:(0:Int)<=r/\r<=(2:Int):=by assumption
 have a3:(0:Int)<=e/\e<=(15:Int):=by assumption
 repeat' (conv=>whnf);first|refine az.mk ?_ ?_;exact gS|refine End.mk ?_|apply gU;exact gA|refine gB ?_ ?_<;>intro hb h<;>try exact c8
 all_goals
  (refine gI hK ?_;repeat' first|exact gR|refine az.mk ?_ ?_)
  clear hK
  simp_all [JA]
def U1:CS:=dn [.inl .int,.inl .int,.inl .bool,.inl .int] Vo
theorem Xp:bW al.prog 201 U1:=bH ZV
def TD:Env:=[(76,lh),(87,y8),(89,oq),(90,uP),(91,xV),(88,U0)]
theorem KJ:bg al.prog TD:=aC ⟨jS,wQ,qq,Aw,Df,Xn,trivial⟩
def XO:Nat->Tr:=λ n=>match n with
 |4=>.op 0 0 (.op 2 0 (.op 4 0 (.op 5 0 (.op 7 0 (.op 8 0 (.op 1 1 (.op 3 1 (.op 6 1 (.op 9 1 (.op 10 2 (.nil)))))))))))
 |_=>.nil
def Mt:DA [lR]->(DV->Prop)->Prop:=λ⟨⟨fb,fq,fst,pe,pc,rr,rt,rl,ro,ra,sr,sl,ss,sf,mc,mh,cy,cz,_⟩,_⟩ K=>K (.l (.v (.int .i64 (da ⟨⟨fb,fq,fst⟩,pe,pc,⟨rr,rt,rl,ro,ra⟩,⟨sr,sl,ss,sf⟩,⟨mc,mh,cy,cz⟩⟩))))
theorem Tb:ji al.prog 52 [lR] Mt:=by
 refine bh (TR:=XO) aS aH KJ (Rn.fM Tryz.func52) rfl ?_
 dsimp only[DA,HL,Sh.T]
 rintro⟨⟨fb,fq,fst,pe,pc,rr,rt,rl,ro,ra,sr,sl,ss,sf,mc,mh,cy,cz,_⟩,_⟩ K hK _
 dsimp only[Mt] at hK
 by_cases hv:eS ⟨⟨fb,fq,fst⟩,pe,pc,⟨rr,rt,rl,ro,ra⟩,⟨sr,sl,ss,sf⟩,⟨mc,mh,cy,cz⟩⟩=ae
 ·have dz:0<=fi ⟨rr,rt,rl,ro,ra⟩+jw ⟨sr,sl,ss,sf⟩/\fi ⟨rr,rt,rl,ro,ra⟩+jw ⟨sr,sl,ss,sf⟩<=127:=tU (p:=⟨⟨fb,fq,fst⟩,pe,pc,⟨rr,rt,rl,ro,ra⟩,⟨sr,sl,ss,sf⟩,⟨mc,mh,cy,cz⟩⟩) hv
  repeat' (conv=>whnf);first|refine az.mk ?_ ?_;exact gS|refine End.mk ?_|apply gU;exact gA|refine gB ?_ ?_<;>intro hb h<;>try exact c8
  all_goals
   (refine gI hK ?_;repeat' first|exact gR|refine az.mk ?_ ?_)
   simp[da,hv,iR]
 ·replace hv:eS ⟨⟨fb,fq,fst⟩,pe,pc,⟨rr,rt,rl,ro,ra⟩,⟨sr,sl,ss,sf⟩,⟨mc,mh,cy,cz⟩⟩=aa:=by simpa using hv
  repeat' (conv=>whnf);first|refine az.mk ?_ ?_;exact gS|refine End.mk ?_|apply gU;exact gA|refine gB ?_ ?_<;>intro hb h<;>try exact c8
  all_goals
   (refine gI hK ?_;repeat' first|exact gR|refine az.mk ?_ ?_)
   simp[da,hv]
def Bm:CS:=dn [lR] Mt
theorem BC:bW al.prog 52 Bm:=bH Tb
def TL:Env:=[(128,mJ),(202,wT),(203,Ec),(204,x6),(201,U1)]
theorem K0:bg al.prog TL:=aC ⟨lH,x7,Kp,Di,Xp,trivial⟩
def XR:Nat->Tr:=λ n=>match n with
 |3=>.op 0 0 (.op 2 0 (.op 3 0 (.op 5 0 (.op 6 0 (.op 8 0 (.op 9 0 (.op 1 1 (.op 4 1 (.op 7 1 (.op 10 1 (.op 11 2 (.nil))))))))))))
 |_=>.nil
def Mz:DA [lR]->(DV->Prop)->Prop:=λ⟨⟨fb,fq,fst,pe,pc,rr,rt,rl,ro,ra,sr,sl,ss,sf,mc,mh,cy,cz,_⟩,_⟩ K=>K (.l (.v (.int .i64 (da ⟨⟨fb,fq,fst⟩,pe,pc,⟨rr,rt,rl,ro,ra⟩,⟨sr,sl,ss,sf⟩,⟨mc,mh,cy,cz⟩⟩))))
theorem Ti:ji al.prog 133 [lR] Mz:=by
 refine bh (TR:=XR) aS aH K0 (Rn.fM Tryz.func133) rfl ?_
 dsimp only[DA,HL,Sh.T]
 rintro⟨⟨fb,fq,fst,pe,pc,rr,rt,rl,ro,ra,sr,sl,ss,sf,mc,mh,cy,cz,_⟩,_⟩ K hK _
 dsimp only[Mz] at hK
 by_cases hv:eS ⟨⟨fb,fq,fst⟩,pe,pc,⟨rr,rt,rl,ro,ra⟩,⟨sr,sl,ss,sf⟩,⟨mc,mh,cy,cz⟩⟩=ae
 ·have dz:0<=fi ⟨rr,rt,rl,ro,ra⟩+jw ⟨sr,sl,ss,sf⟩/\fi ⟨rr,rt,rl,ro,ra⟩+jw ⟨sr,sl,ss,sf⟩<=127:=tU (p:=⟨⟨fb,fq,fst⟩,pe,pc,⟨rr,rt,rl,ro,ra⟩,⟨sr,sl,ss,sf⟩,⟨mc,mh,cy,cz⟩⟩) hv
  repeat' (conv=>whnf);first|refine az.mk ?_ ?_;exact gS|refine End.mk ?_|apply gU;exact gA|refine gB ?_ ?_<;>intro hb h<;>try exact c8
  all_goals
   (refine gI hK ?_;repeat' first|exact gR|refine az.mk ?_ ?_)
   simp[da,hv,iR]
 ·replace hv:eS ⟨⟨fb,fq,fst⟩,pe,pc,⟨rr,rt,rl,ro,ra⟩,⟨sr,sl,ss,sf⟩,⟨mc,mh,cy,cz⟩⟩=aa:=by simpa using hv
  repeat' (conv=>whnf);first|refine az.mk ?_ ?_;exact gS|refine End.mk ?_|apply gU;exact gA|refine gB ?_ ?_<;>intro hb h<;>try exact c8
  all_goals
   (refine gI hK ?_;repeat' first|exact gR|refine az.mk ?_ ?_)
   simp[da,hv]
def Bp:CS:=dn [lR] Mz
theorem BL:bW al.prog 133 Bp:=bH Ti
def DO(r t:Int):re:=⟨⟨8,0,1⟩,0,0,⟨r,t,[],aa,0⟩,⟨r,[],-1,0⟩,zuN⟩
structure zg0 where
 p:re
 ok:Bool
def po(r t:Int):zg0:=if eS (DO r t) then ⟨DO r t,ae⟩ else ⟨C9,aa⟩
def zg0.d(x:zg0):DV:=.t [.inr x.p.d,.inl (.v (.bool x.ok))]
structure Pp where
 p:re
 n:Int
 ok:Bool
def zQ(p:re):re:=⟨p.f,p.en,p.co,if (eT p.rc).ok then (eT p.rc).r else p.rc,p.sd,p.md⟩
def wG(p:re):re:=⟨p.f,p.en,p.co,⟨p.rc.room,p.rc.mL,p.rc.items,aa,p.rc.Sy⟩,p.sd,p.md⟩
def UO(p:re):re:=⟨p.f,p.en,p.co,p.rc,p.sd,JL p.md⟩
def bM(p : re)(g : Int) : Pp := if eS p then
    (if g = 0 then ⟨zQ p, (eT p.rc).g.1, ae⟩ else if g = 1 then ⟨p, p.en, ae⟩ else if g = 2 then ⟨p, da p, ae⟩ else if g = 3 then ⟨p, O7 p.f, ae⟩
     else if g = 4 then ⟨p, p.co, ae⟩ else if g = 5 then ⟨wG p, iR p, ae⟩ else if g = 6 then ⟨UO p, wF p.md, ae⟩ else ⟨C9, 0, aa⟩)
  else ⟨C9, 0, aa⟩
def Pp.d(x:Pp):DV:=.t [.inr x.p.d,.inl (.v (.int .i64 x.n)),.inl (.v (.bool x.ok))]
theorem zbW{x:yy}(h:(eT x).ok=aa):(eT x).g.1=0:=by
 revert h
 unfold eT
 split
 ·split<;>simp
 ·simp
theorem ze2(x:yy):(eT x).r.items.length<=x.items.length:=by
 unfold eT
 split
 ·split<;>rename_i e<;>simp[e,JE]
 ·simp[JE]
theorem pq(x:re)(g:Int):(bM x g).p.rc.items.length<=x.rc.items.length/\(bM x g).p.sd.items.length<=x.sd.items.length:=by
 unfold bM
 split
 ·repeat' split
  all_goals first
   |(refine⟨?_,aA _⟩;show (if (eT x.rc).ok=ae then (eT x.rc).r else x.rc).items.length<=_;split;exact ze2 _;exact aA _)
   |exact⟨aA _,aA _⟩
   |exact⟨bw _,bw _⟩
 ·exact⟨bw _,bw _⟩
def TE:Env:=[(76,lh)]
theorem KL:bg al.prog TE:=aC ⟨jS,trivial⟩
def Z9:DA [.inl .int,.inl .int]->(DV->Prop)->Prop:=λ⟨r,t,_⟩ K=>K (po r t).d
theorem zkN:ji al.prog 57 [.inl .int,.inl .int] Z9:=by
 refine bh (TR:=ja) aS aH KL (Rn.fM Tryz.func57) rfl ?_
 rintro⟨(r:Int),(t:Int),_⟩ K hK _
 dsimp only[Z9] at hK
 by_cases hv:eS (DO r t)=ae
 ·rw[show po r t=⟨DO r t,ae⟩ by simp[po,hv]] at hK
  replace hv:eS ⟨⟨8,0,1⟩,0,0,⟨r,t,[],aa,0⟩,⟨r,[],-1,0⟩,⟨aa,aa,aa,aa⟩⟩=ae:=hv
  exact gW
 ·replace hv:eS (DO r t)=aa:=by simpa using hv
  rw[show po r t=⟨C9,aa⟩ by simp[po,hv]] at hK
  replace hv:eS ⟨⟨8,0,1⟩,0,0,⟨r,t,[],aa,0⟩,⟨r,[],-1,0⟩,⟨aa,aa,aa,aa⟩⟩=aa:=hv
  exact gW
def zGq:CS:=dn [.inl .int,.inl .int] Z9
theorem zGw:bW al.prog 57 zGq:=bH zkN
def TM:Env:=[(128,mJ)]
theorem K4:bg al.prog TM:=aC ⟨lH,trivial⟩
def MA:DA [.inl .int,.inl .int]->(DV->Prop)->Prop:=λ⟨r,t,_⟩ K=>K (po r t).d
theorem Tj:ji al.prog 182 [.inl .int,.inl .int] MA:=by
 refine bh (TR:=ja) aS aH K4 (Rn.fM Tryz.func182) rfl ?_
 rintro⟨(r:Int),(t:Int),_⟩ K hK _
 dsimp only[MA] at hK
 by_cases hv:eS (DO r t)=ae
 ·rw[show po r t=⟨DO r t,ae⟩ by simp[po,hv]] at hK
  replace hv:eS ⟨⟨8,0,1⟩,0,0,⟨r,t,[],aa,0⟩,⟨r,[],-1,0⟩,⟨aa,aa,aa,aa⟩⟩=ae:=hv
  exact gW
 ·replace hv:eS (DO r t)=aa:=by simpa using hv
  rw[show po r t=⟨C9,aa⟩ by simp[po,hv]] at hK
  replace hv:eS ⟨⟨8,0,1⟩,0,0,⟨r,t,[],aa,0⟩,⟨r,[],-1,0⟩,⟨aa,aa,aa,aa⟩⟩=aa:=hv
  exact gW
def L5:CS:=dn [.inl .int,.inl .int] MA
theorem QU:bW al.prog 182 L5:=bH Tj
variable{p:re}
theorem Qu{g:Int}(h:g<0\/6<g):bM p g=⟨C9,0,aa⟩:=by
 unfold bM
 split
 ·rw[if_neg (by omega),if_neg (by omega),if_neg (by omega),if_neg (by omega),if_neg (by omega),if_neg (by omega),if_neg (by omega)]
 ·rfl
def RN:Env:=[(76,lh),(86,tj),(215,HA),(52,Bm),(216,BB),(87,y8),(89,oq),(217,D4)]
theorem IU:bg al.prog RN:=aC ⟨jS,sM,M5,BC,Iy,wQ,qq,Kg,trivial⟩
def Uj:Nat->Tr:=λ n=>match n with
 |10=>.op 0 0 (.op 1 0 (.op 2 0 (.op 3 1 (.op 4 1 (.op 5 2 (.nil))))))
 |_=>.nil
def Ia:DA [lR,.inl .int]->(DV->Prop)->Prop:=λ⟨⟨fb,fq,fst,pe,pc,rr,rt,rl,ro,ra,sr,sl,ss,sf,mc,mh,cy,cz,_⟩,g,_⟩ K=>K (bM ⟨⟨fb,fq,fst⟩,pe,pc,⟨rr,rt,rl,ro,ra⟩,⟨sr,sl,ss,sf⟩,⟨mc,mh,cy,cz⟩⟩ g).d
theorem Rc:ji al.prog 153 [lR,.inl .int] Ia:=by
 refine zmS (TR:=Uj) [0] aS aH IU (Rn.fM Tryz.func153) rfl ?_
 dsimp only[DA,HL,Sh.T]
 rintro⟨⟨fb,fq,fst,pe,pc,rr,rt,rl,ro,ra,sr,sl,ss,sf,mc,mh,cy,cz,_⟩,g,_⟩ K hK ⟨⟨_,_,_,_,_,_,_,Ya,_,_,_,yD,_⟩,_⟩
 dsimp only[Ia] at hK
 replace Ya:=gl rl Ya
 replace yD:=gl sl yD
 by_cases hv:eS ⟨⟨fb,fq,fst⟩,pe,pc,⟨rr,rt,rl,ro,ra⟩,⟨sr,sl,ss,sf⟩,⟨mc,mh,cy,cz⟩⟩=ae
 ·have dz:0<=fi ⟨rr,rt,rl,ro,ra⟩+jw ⟨sr,sl,ss,sf⟩/\fi ⟨rr,rt,rl,ro,ra⟩+jw ⟨sr,sl,ss,sf⟩<=127:=tU (p:=⟨⟨fb,fq,fst⟩,pe,pc,⟨rr,rt,rl,ro,ra⟩,⟨sr,sl,ss,sf⟩,⟨mc,mh,cy,cz⟩⟩) hv
  have hc:g=0\/g=1\/g=2\/g=3\/g=4\/g=5\/g=6\/(g<0\/6<g):=by omega
  rcases hc with rfl|rfl|rfl|rfl|rfl|rfl|rfl|hg
  ·by_cases fc:(eT ⟨rr,rt,rl,ro,ra⟩).ok=ae
   ·rw[show bM ⟨⟨fb,fq,fst⟩,pe,pc,⟨rr,rt,rl,ro,ra⟩,⟨sr,sl,ss,sf⟩,⟨mc,mh,cy,cz⟩⟩ 0=⟨⟨⟨fb,fq,fst⟩,pe,pc,(eT ⟨rr,rt,rl,ro,ra⟩).r,⟨sr,sl,ss,sf⟩,⟨mc,mh,cy,cz⟩⟩,(eT ⟨rr,rt,rl,ro,ra⟩).g.1,ae⟩ by simp[bM,hv,zQ,fc]] at hK
    exact gW
   ·replace fc:(eT ⟨rr,rt,rl,ro,ra⟩).ok=aa:=by simpa using fc
    rw[show bM ⟨⟨fb,fq,fst⟩,pe,pc,⟨rr,rt,rl,ro,ra⟩,⟨sr,sl,ss,sf⟩,⟨mc,mh,cy,cz⟩⟩ 0=⟨⟨⟨fb,fq,fst⟩,pe,pc,⟨rr,rt,rl,ro,ra⟩,⟨sr,sl,ss,sf⟩,⟨mc,mh,cy,cz⟩⟩,0,ae⟩ by simp[bM,hv,zQ,fc,zbW fc]] at hK
    exact gW
  ·rw[show bM ⟨⟨fb,fq,fst⟩,pe,pc,⟨rr,rt,rl,ro,ra⟩,⟨sr,sl,ss,sf⟩,⟨mc,mh,cy,cz⟩⟩ 1=⟨⟨⟨fb,fq,fst⟩,pe,pc,⟨rr,rt,rl,ro,ra⟩,⟨sr,sl,ss,sf⟩,⟨mc,mh,cy,cz⟩⟩,pe,ae⟩ by simp[bM,hv]] at hK
   exact gW
  ·rw[show bM ⟨⟨fb,fq,fst⟩,pe,pc,⟨rr,rt,rl,ro,ra⟩,⟨sr,sl,ss,sf⟩,⟨mc,mh,cy,cz⟩⟩ 2=⟨⟨⟨fb,fq,fst⟩,pe,pc,⟨rr,rt,rl,ro,ra⟩,⟨sr,sl,ss,sf⟩,⟨mc,mh,cy,cz⟩⟩,da ⟨⟨fb,fq,fst⟩,pe,pc,⟨rr,rt,rl,ro,ra⟩,⟨sr,sl,ss,sf⟩,⟨mc,mh,cy,cz⟩⟩,ae⟩ by simp[bM,hv]] at hK
   exact gW
  ·rw[show bM ⟨⟨fb,fq,fst⟩,pe,pc,⟨rr,rt,rl,ro,ra⟩,⟨sr,sl,ss,sf⟩,⟨mc,mh,cy,cz⟩⟩ 3=⟨⟨⟨fb,fq,fst⟩,pe,pc,⟨rr,rt,rl,ro,ra⟩,⟨sr,sl,ss,sf⟩,⟨mc,mh,cy,cz⟩⟩,O7 ⟨fb,fq,fst⟩,ae⟩ by simp[bM,hv]] at hK
   exact gW
  ·rw[show bM ⟨⟨fb,fq,fst⟩,pe,pc,⟨rr,rt,rl,ro,ra⟩,⟨sr,sl,ss,sf⟩,⟨mc,mh,cy,cz⟩⟩ 4=⟨⟨⟨fb,fq,fst⟩,pe,pc,⟨rr,rt,rl,ro,ra⟩,⟨sr,sl,ss,sf⟩,⟨mc,mh,cy,cz⟩⟩,pc,ae⟩ by simp[bM,hv]] at hK
   exact gW
  ·rw[show bM ⟨⟨fb,fq,fst⟩,pe,pc,⟨rr,rt,rl,ro,ra⟩,⟨sr,sl,ss,sf⟩,⟨mc,mh,cy,cz⟩⟩ 5=⟨wG ⟨⟨fb,fq,fst⟩,pe,pc,⟨rr,rt,rl,ro,ra⟩,⟨sr,sl,ss,sf⟩,⟨mc,mh,cy,cz⟩⟩,fi ⟨rr,rt,rl,ro,ra⟩+jw ⟨sr,sl,ss,sf⟩,ae⟩ by simp[bM,hv,iR]] at hK
   exact gW
  ·rw[show bM ⟨⟨fb,fq,fst⟩,pe,pc,⟨rr,rt,rl,ro,ra⟩,⟨sr,sl,ss,sf⟩,⟨mc,mh,cy,cz⟩⟩ 6=⟨UO ⟨⟨fb,fq,fst⟩,pe,pc,⟨rr,rt,rl,ro,ra⟩,⟨sr,sl,ss,sf⟩,⟨mc,mh,cy,cz⟩⟩,wF ⟨mc,mh,cy,cz⟩,ae⟩ by simp[bM,hv]] at hK
   exact gW
  ·rw[Qu hg] at hK
   exact gW
 ·replace hv:eS ⟨⟨fb,fq,fst⟩,pe,pc,⟨rr,rt,rl,ro,ra⟩,⟨sr,sl,ss,sf⟩,⟨mc,mh,cy,cz⟩⟩=aa:=by simpa using hv
  rw[show bM ⟨⟨fb,fq,fst⟩,pe,pc,⟨rr,rt,rl,ro,ra⟩,⟨sr,sl,ss,sf⟩,⟨mc,mh,cy,cz⟩⟩ g=⟨C9,0,aa⟩ by simp[bM,hv]] at hK
  exact gW
def Hz:CS:=dn [lR,.inl .int] Ia
theorem M4:bW al.prog 153 Hz:=bH Rc
def R9:Env:=[(128,mJ),(56,mj),(92,r9),(207,HW),(133,Bp),(208,BK),(202,wT),(209,Ea)]
theorem Jd:bg al.prog R9:=aC ⟨lH,iW,qh,Ni,BL,IE,x7,Km,trivial⟩
def Ul:Nat->Tr:=λ n=>match n with
 |9=>.op 0 0 (.op 1 0 (.op 2 0 (.op 3 1 (.op 4 2 (.op 5 2 (.nil))))))
 |11=>.op 0 0 (.op 1 0 (.op 2 0 (.op 3 1 (.op 4 2 (.op 5 2 (.nil))))))
 |13=>.op 0 0 (.op 1 1 (.op 2 1 (.op 3 2 (.op 4 2 (.op 5 2 (.nil))))))
 |15=>.op 0 0 (.op 1 1 (.op 2 1 (.op 3 1 (.op 4 2 (.op 5 2 (.op 6 2 (.nil)))))))
 |17=>.op 0 0 (.op 1 0 (.op 2 0 (.op 3 1 (.op 4 2 (.op 5 2 (.nil))))))
 |20=>.op 0 0 (.op 1 1 (.op 2 1 (.op 3 2 (.op 4 2 (.op 5 2 (.nil))))))
 |_=>.nil
def Ir:DA [lR,.inl .int]->(DV->Prop)->Prop:=λ⟨⟨fb,fq,fst,pe,pc,rr,rt,rl,ro,ra,sr,sl,ss,sf,mc,mh,cy,cz,_⟩,g,_⟩ K=>K (bM ⟨⟨fb,fq,fst⟩,pe,pc,⟨rr,rt,rl,ro,ra⟩,⟨sr,sl,ss,sf⟩,⟨mc,mh,cy,cz⟩⟩ g).d
theorem Rv:ji al.prog 136 [lR,.inl .int] Ir:=by
 refine bh (TR:=Ul) aS aH Jd (Rn.fM Tryz.func136) rfl ?_
 dsimp only[DA,HL,Sh.T]
 rintro⟨⟨fb,fq,fst,pe,pc,rr,rt,rl,ro,ra,sr,sl,ss,sf,mc,mh,cy,cz,_⟩,g,_⟩ K hK ⟨⟨_,_,_,_,_,_,_,Ya,_,_,_,yD,_⟩,_⟩
 dsimp only[Ir] at hK
 replace Ya:=gl rl Ya
 replace yD:=gl sl yD
 by_cases hv:eS ⟨⟨fb,fq,fst⟩,pe,pc,⟨rr,rt,rl,ro,ra⟩,⟨sr,sl,ss,sf⟩,⟨mc,mh,cy,cz⟩⟩=ae
 ·have dz:0<=fi ⟨rr,rt,rl,ro,ra⟩+jw ⟨sr,sl,ss,sf⟩/\fi ⟨rr,rt,rl,ro,ra⟩+jw ⟨sr,sl,ss,sf⟩<=127:=tU (p:=⟨⟨fb,fq,fst⟩,pe,pc,⟨rr,rt,rl,ro,ra⟩,⟨sr,sl,ss,sf⟩,⟨mc,mh,cy,cz⟩⟩) hv
  have hc:g=0\/g=1\/g=2\/g=3\/g=4\/g=5\/g=6\/(g<0\/6<g):=by omega
  rcases hc with rfl|rfl|rfl|rfl|rfl|rfl|rfl|hg
  ·by_cases fc:(eT ⟨rr,rt,rl,ro,ra⟩).ok=ae
   ·rw[show bM ⟨⟨fb,fq,fst⟩,pe,pc,⟨rr,rt,rl,ro,ra⟩,⟨sr,sl,ss,sf⟩,⟨mc,mh,cy,cz⟩⟩ 0=⟨⟨⟨fb,fq,fst⟩,pe,pc,(eT ⟨rr,rt,rl,ro,ra⟩).r,⟨sr,sl,ss,sf⟩,⟨mc,mh,cy,cz⟩⟩,(eT ⟨rr,rt,rl,ro,ra⟩).g.1,ae⟩ by simp[bM,hv,zQ,fc]] at hK
    exact gW
   ·replace fc:(eT ⟨rr,rt,rl,ro,ra⟩).ok=aa:=by simpa using fc
    rw[show bM ⟨⟨fb,fq,fst⟩,pe,pc,⟨rr,rt,rl,ro,ra⟩,⟨sr,sl,ss,sf⟩,⟨mc,mh,cy,cz⟩⟩ 0=⟨⟨⟨fb,fq,fst⟩,pe,pc,⟨rr,rt,rl,ro,ra⟩,⟨sr,sl,ss,sf⟩,⟨mc,mh,cy,cz⟩⟩,(eT ⟨rr,rt,rl,ro,ra⟩).g.1,ae⟩ by simp[bM,hv,zQ,fc]] at hK
    exact gW
  ·rw[show bM ⟨⟨fb,fq,fst⟩,pe,pc,⟨rr,rt,rl,ro,ra⟩,⟨sr,sl,ss,sf⟩,⟨mc,mh,cy,cz⟩⟩ 1=⟨⟨⟨fb,fq,fst⟩,pe,pc,⟨rr,rt,rl,ro,ra⟩,⟨sr,sl,ss,sf⟩,⟨mc,mh,cy,cz⟩⟩,pe,ae⟩ by simp[bM,hv]] at hK
   exact gW
  ·rw[show bM ⟨⟨fb,fq,fst⟩,pe,pc,⟨rr,rt,rl,ro,ra⟩,⟨sr,sl,ss,sf⟩,⟨mc,mh,cy,cz⟩⟩ 2=⟨⟨⟨fb,fq,fst⟩,pe,pc,⟨rr,rt,rl,ro,ra⟩,⟨sr,sl,ss,sf⟩,⟨mc,mh,cy,cz⟩⟩,da ⟨⟨fb,fq,fst⟩,pe,pc,⟨rr,rt,rl,ro,ra⟩,⟨sr,sl,ss,sf⟩,⟨mc,mh,cy,cz⟩⟩,ae⟩ by simp[bM,hv]] at hK
   exact gW
  ·rw[show bM ⟨⟨fb,fq,fst⟩,pe,pc,⟨rr,rt,rl,ro,ra⟩,⟨sr,sl,ss,sf⟩,⟨mc,mh,cy,cz⟩⟩ 3=⟨⟨⟨fb,fq,fst⟩,pe,pc,⟨rr,rt,rl,ro,ra⟩,⟨sr,sl,ss,sf⟩,⟨mc,mh,cy,cz⟩⟩,O7 ⟨fb,fq,fst⟩,ae⟩ by simp[bM,hv]] at hK
   exact gW
  ·rw[show bM ⟨⟨fb,fq,fst⟩,pe,pc,⟨rr,rt,rl,ro,ra⟩,⟨sr,sl,ss,sf⟩,⟨mc,mh,cy,cz⟩⟩ 4=⟨⟨⟨fb,fq,fst⟩,pe,pc,⟨rr,rt,rl,ro,ra⟩,⟨sr,sl,ss,sf⟩,⟨mc,mh,cy,cz⟩⟩,pc,ae⟩ by simp[bM,hv]] at hK
   exact gW
  ·rw[show bM ⟨⟨fb,fq,fst⟩,pe,pc,⟨rr,rt,rl,ro,ra⟩,⟨sr,sl,ss,sf⟩,⟨mc,mh,cy,cz⟩⟩ 5=⟨wG ⟨⟨fb,fq,fst⟩,pe,pc,⟨rr,rt,rl,ro,ra⟩,⟨sr,sl,ss,sf⟩,⟨mc,mh,cy,cz⟩⟩,fi ⟨rr,rt,rl,ro,ra⟩+jw ⟨sr,sl,ss,sf⟩,ae⟩ by simp[bM,hv,iR]] at hK
   exact gW
  ·rw[show bM ⟨⟨fb,fq,fst⟩,pe,pc,⟨rr,rt,rl,ro,ra⟩,⟨sr,sl,ss,sf⟩,⟨mc,mh,cy,cz⟩⟩ 6=⟨UO ⟨⟨fb,fq,fst⟩,pe,pc,⟨rr,rt,rl,ro,ra⟩,⟨sr,sl,ss,sf⟩,⟨mc,mh,cy,cz⟩⟩,wF ⟨mc,mh,cy,cz⟩,ae⟩ by simp[bM,hv]] at hK
   exact gW
  ·rw[Qu hg] at hK
   repeat' (conv=>whnf);first|refine az.mk ?_ ?_;exact gS|refine End.mk ?_|apply gU;exact gA|refine gB ?_ ?_<;>intro hb h<;>try exact c8
   all_goals first
    |(exfalso;have h':(0:Int)<=g/\g<=(6:Int):=(by assumption);omega)
    |(exact gF hK)
 ·replace hv:eS ⟨⟨fb,fq,fst⟩,pe,pc,⟨rr,rt,rl,ro,ra⟩,⟨sr,sl,ss,sf⟩,⟨mc,mh,cy,cz⟩⟩=aa:=by simpa using hv
  rw[show bM ⟨⟨fb,fq,fst⟩,pe,pc,⟨rr,rt,rl,ro,ra⟩,⟨sr,sl,ss,sf⟩,⟨mc,mh,cy,cz⟩⟩ g=⟨C9,0,aa⟩ by simp[bM,hv]] at hK
  exact gW
def tk:CS:=dn [lR,.inl .int] Ir
theorem sP:bW al.prog 136 tk:=bH Rv
def O5(n:Int):Int:=yI (n+1) 999
theorem WN{n:Int}(h:0<=n/\n<=999):0<=O5 n/\O5 n<=999:=by
 unfold O5 yI
 split<;>omega
def C5(l:List (Int×Int)):Bool:=match l with
 |[]=>aa
 |g::_=>decide (g.2=1\/g.2=2)
def JQ(d:iY):iY:=⟨if iR d.p/4 % 2=1\/iR d.p/8 % 2=1 then zQ (wG d.p) else wG d.p,d.tp,d.out,if iR d.p/4 % 2=1\/iR d.p/8 % 2=1 then O5 d.jW else d.jW,if iR d.p/2 % 2=1 then O5 d.lost else d.lost⟩
def JP(d:iY):iY:=⟨zQ d.p,if d.tp.length<32 then d.tp++[(eT d.p.rc).g.1] else d.tp,d.out,d.jW,if d.tp.length<32 then d.lost else O5 d.lost⟩
def mi:yz->List Int->yz×List Int
 |s,[]=>(s,[])
 |s,b::r=>if (s.items.length:Int)<s.room then mi ⟨s.room,s.items++[b],s.shift,s.left⟩ r else (s,b::r)
def y5(d:iY):iY:=match d.out with
 |[]=>⟨⟨d.p.f,d.p.en-2,d.p.co,d.p.rc,d.p.sd,d.p.md⟩,d.tp,[],d.jW,d.lost⟩
 |b::r=>⟨⟨d.p.f,d.p.en,d.p.co,d.p.rc,(mi d.p.sd (b::r)).1,d.p.md⟩,d.tp,(mi d.p.sd (b::r)).2,d.jW,d.lost⟩
def CH(d:iY):iY:=⟨UO d.p,d.tp,d.out,d.jW,d.lost⟩
def rO(d:iY):iY:=if da d.p=6 then JQ d else if da d.p=2 then y5 d else if da d.p=0 then CH d else JP d
def dA:Nat->iY->iY×Int
 |0,d=>(d,0)
 |n+1,d=>if da d.p=1 then (d,0) else ((dA n (rO d)).1,(dA n (rO d)).2+1)
structure YB where
 x:iY
 n:Int
 ok:Bool
def oy(d:iY):YB:=if jj d then ⟨(dA 40 d).1,(dA 40 d).2,ae⟩ else ⟨V3,0,aa⟩
def YB.d(x:YB):DV:=.t [.inr x.x.d,.inl (.v (.int .i64 x.n)),.inl (.v (.bool x.ok))]
theorem zew(l:List (Int×Int)):(C5 l=ae/\(rK l=5\/rK l=9))\/(C5 l=aa/\(rK l=0\/rK l=1)):=by
 cases l with
 |nil=>simp[C5,rK]
 |cons g r=>
  by_cases h1:g.2=1
  ·simp[C5,rK,h1]
  ·by_cases h2:g.2=2<;>simp[C5,rK,h1,h2]
theorem znJ{s:yz}(h:lK s=ae):(s.items=[]/\(jw s=96\/jw s=32))\/(s.items≠[]/\jw s=0):=by
 obtain⟨r,l,s,f⟩:=s
 simp only[jw,h,if_true]
 cases l
 ·left
  refine⟨rfl,?_⟩
  by_cases hs:s=-1<;>simp[hs]
 ·right
  simp
theorem Qv(h:eS p=ae):(iR p/2 % 2=1↔p.rc.lost=ae)/\((iR p/4 % 2=1\/iR p/8 % 2=1)↔C5 p.rc.items=ae)/\(2<=iR p % 16↔(p.rc.lost=ae\/C5 p.rc.items=ae))/\(iR p/32 % 2=1↔p.sd.items=[]):=by
 obtain⟨_,_,_,h1,h2⟩:=dV h
 have hc:=zew p.rc.items
 have hs:=znJ h2
 unfold iR fi
 rw[h1]
 simp only[if_true]
 rcases hc with⟨hb,hc|hc⟩|⟨hb,hc|hc⟩<;>rcases hs with⟨hi,hs|hs⟩|⟨hi,hs⟩<;>(cases hl:p.rc.lost<;>simp[hb,hc,hi,hs])
theorem znk(h:eS p=ae):da p=(if p.en/4 % 2=1/\(p.rc.lost=ae\/C5 p.rc.items=ae) then 6 else if p.en % 2=1/\p.rc.mL<=p.rc.items.length then 4 else if p.en % 2=1/\(0<p.rc.items.length/\4<=p.rc.Sy) then 12 else if p.en/2 % 2=1/\p.sd.items=[] then 2 else if p.en/8 % 2=1/\JC p.md=ae then 0 else 1):=by
 obtain⟨b1,b2,b3,b4⟩:=Qv h
 obtain⟨_,he,_,h1,h2⟩:=dV h
 have hb:=tU h
 have hr:0<=lW p.rc/\lW p.rc<=2:=by
  unfold lW
  repeat' split
  all_goals omega
 unfold da JA
 rw[h,if_pos rfl,if_pos ⟨hb.1,hb.2,hr.1,hr.2,he.1,he.2⟩]
 simp only[b3,b4]
 have r1:lW p.rc=1↔p.rc.mL<=p.rc.items.length:=by
  unfold lW
  rw[h1]
  simp only[if_true]
  split
  ·simp[*]
  ·split<;>simp[*]
 have r2:lW p.rc=2↔¬p.rc.mL<=p.rc.items.length/\(0<p.rc.items.length/\4<=p.rc.Sy):=by
  unfold lW
  rw[h1]
  simp only[if_true]
  split
  ·simp[*]
  ·split<;>simp[*]
 simp only[r1,r2]
 by_cases c1:p.en/4 % 2=1/\(p.rc.lost=ae\/C5 p.rc.items=ae)
 ·rw[if_pos c1,if_pos c1]
 ·rw[if_neg c1,if_neg c1]
  by_cases c2:p.en % 2=1/\p.rc.mL<=p.rc.items.length
  ·rw[if_pos c2,if_pos c2]
  ·rw[if_neg c2,if_neg c2]
   by_cases c3:p.en % 2=1/\(0<p.rc.items.length/\4<=p.rc.Sy)
   ·rw[if_pos c3,if_pos ⟨c3.1,λ hh=>c2 ⟨c3.1,hh⟩,c3.2⟩]
   ·rw[if_neg c3,if_neg (λ hh=>c3 ⟨hh.1,hh.2.2⟩)]
inductive Irq(p:re):Prop where
 |line (e:da p=6) (he:p.en/4 % 2=1) (h:p.rc.lost=ae\/C5 p.rc.items=ae)
 |data (e6:da p≠6) (e2:da p≠2) (e0:da p≠0) (e1:da p≠1) (e:da p=4\/da p=12) (h:p.rc.items≠[]) (hx:¬(p.en/4 % 2=1/\(p.rc.lost=ae\/C5 p.rc.items=ae)))
 |empty (e:da p=2) (he:p.en/2 % 2=1) (h:p.sd.items=[])
 |zc3 (e:da p=0) (h:JC p.md=ae)
 |none (e:da p=1) (h1:¬(p.en/4 % 2=1/\(p.rc.lost=ae\/C5 p.rc.items=ae))) (h2:p.en % 2=1->(p.rc.items.length:Int)<p.rc.mL)
theorem zbb(h:eS p=ae):Irq p:=by
 have e:=znk h
 obtain⟨_,_,_,h1,_⟩:=dV h
 have hb:=oN h1
 by_cases c1:p.en/4 % 2=1/\(p.rc.lost=ae\/C5 p.rc.items=ae)
 ·rw[if_pos c1] at e
  exact .line e c1.1 c1.2
 rw[if_neg c1] at e
 by_cases c2:p.en % 2=1/\p.rc.mL<=p.rc.items.length
 ·rw[if_pos c2] at e
  refine .data (by omega) (by omega) (by omega) (by omega) (by omega) ?_ c1
  intro hn
  rw[hn] at c2
  simp at c2
  omega
 rw[if_neg c2] at e
 by_cases c3:p.en % 2=1/\(0<p.rc.items.length/\4<=p.rc.Sy)
 ·rw[if_pos c3] at e
  refine .data (by omega) (by omega) (by omega) (by omega) (by omega) ?_ c1
  intro hn
  rw[hn] at c3
  simp at c3
 rw[if_neg c3] at e
 by_cases c4:p.en/2 % 2=1/\p.sd.items=[]
 ·rw[if_pos c4] at e
  exact .empty e c4.1 c4.2
 rw[if_neg c4] at e
 by_cases c5:p.en/8 % 2=1/\JC p.md=ae
 ·rw[if_pos c5] at e
  exact .zc3 e c5.2
 rw[if_neg c5] at e
 exact .none e c1 (λ he=>by
  have:¬p.rc.mL<=p.rc.items.length:=λ hh=>c2 ⟨he,hh⟩
  omega)
theorem Ft{r:yy}(h:ir r=ae){g:Int×Int}{l:List (Int×Int)}(e:r.items=g::l):eT r=⟨⟨r.room,r.mL,l,r.lost,0⟩,g,ae⟩:=by
 simp[eT,h,e]
theorem ZC{r:yy}(h:ir r=ae){g:Int×Int}{l:List (Int×Int)}(e:r.items=g::l):ir ⟨r.room,r.mL,l,r.lost,0⟩=ae/\eF g.1=ae:=by
 obtain⟨h1,h2,h3,h4,h5⟩:=oN h
 rw[e] at h3 h5
 simp only[EU,List.all_cons,aE,bP,xe] at h3 h5
 exact⟨xu h1 h2 (by omega) (by omega) h5.2,h5.1.1⟩
theorem Hq{r:yy}(h:ir r=ae):ir ⟨r.room,r.mL,r.items,aa,r.Sy⟩=ae:=by
 obtain⟨h1,h2,h3,h4,h5⟩:=oN h
 exact xu h1 h2 h3 h4 h5
theorem QE(l:List Int):∀s:yz,(mi s l).1.items++(mi s l).2=s.items++l/\(mi s l).1.room=s.room/\(mi s l).1.shift=s.shift/\(mi s l).1.left=s.left/\(mi s l).2.length<=l.length:=by
 induction l with
 |nil=>intro s;simp[mi]
 |cons b r ih=>
  intro s
  unfold mi
  split
  ·have:=ih ⟨s.room,s.items++[b],s.shift,s.left⟩
   simp only[List.append_assoc,List.cons_append,List.nil_append] at this
   refine⟨this.1,this.2.1,this.2.2.1,this.2.2.2.1,?_⟩
   have:=this.2.2.2.2
   simp
   omega
  ·simp
theorem G8{a b:List Int}:ko (a++b)=ae↔ko a=ae/\ko b=ae:=by
 simp[ko]
theorem zae(l:List Int):∀s:yz,lK s=ae->ko l=ae->lK (mi s l).1=ae/\ko (mi s l).2=ae:=by
 induction l with
 |nil=>intro s h _;exact⟨h,rfl⟩
 |cons b r ih=>
  intro s h hl
  unfold mi
  split
  ·rename_i hc
   have hb:=qK hl
   refine ih _ ?_ hb.2
   obtain⟨h1,h2,h3⟩:=kC h
   have hf:kB s.room (s.items++[b])=ae:=by
    simp only[kB,aE,decide_eq_true_eq]
    refine⟨⟨⟨h1.2.2,h1.1⟩,by simp;omega⟩,G8.2 ⟨h2,by simp[ko,hb.1]⟩⟩
   simp only[lK,aE] at h ⊢
   exact⟨hf,h.2⟩
  ·exact⟨h,hl⟩
theorem zad{s:yz}(h:lK s=ae)(e:s.items=[])(b:Int)(r:List Int):(mi s (b::r)).1.items≠[]:=by
 obtain⟨h1,_⟩:=kC h
 unfold mi
 rw[if_pos (by rw[e];simp;omega)]
 have hk:=(QE r ⟨s.room,s.items++[b],s.shift,s.left⟩)
 have:∀(l:List Int) (s:yz),s.items≠[]->(mi s l).1.items≠[]:=by
  intro l
  induction l with
  |nil=>intro s h;exact h
  |cons b r ih=>
   intro s h
   unfold mi
   split
   ·exact ih _ (by simp)
   ·exact h
 exact this r _ (by simp)
def smu(d:iY):Nat:=d.p.rc.items.length+(if d.p.rc.lost=ae then 1 else 0)+(if d.p.en/2 % 2=1/\d.p.sd.items=[] then 1 else 0)+(if JC d.p.md=ae then 1 else 0)
theorem zbm{d:iY}(h:jj d=ae):smu d<=19:=by
 have:=(OP (fu h).1).1
 unfold smu
 repeat' split
 all_goals omega
structure Kept(d x:iY):Prop where
 v:jj x=ae
 mu:smu x<smu d
 en4:x.p.en/4=d.p.en/4
 en1:x.p.en % 2=d.p.en % 2
 mL:x.p.rc.mL=d.p.rc.mL
 way:x.p.sd.items++x.out=d.p.sd.items++d.out
 shift:x.p.sd.shift=d.p.sd.shift
 tp:∃l,x.tp=d.tp++l
 f:x.p.f=d.p.f
theorem zfd{d:iY}(h:jj d=ae)(hx:d.p.rc.lost=ae\/C5 d.p.rc.items=ae):Kept d (JQ d):=by
 obtain⟨h1,h2,h3,h4,h5⟩:=fu h
 obtain⟨p1,p2,p3,p4,p5⟩:=dV h1
 obtain⟨b1,b2,_,_⟩:=Qv h1
 have hl:0<=(if iR d.p/2 % 2=1 then O5 d.lost else d.lost)/\(if iR d.p/2 % 2=1 then O5 d.lost else d.lost)<=999:=by
  split
  ·exact WN h5
  ·exact h5
 unfold JQ
 by_cases hb:C5 d.p.rc.items=ae
 ·rw[if_pos (b2.2 hb),if_pos (b2.2 hb)]
  cases hi:d.p.rc.items with
  |nil=>rw[hi] at hb;simp[C5] at hb
  |cons g l=>
   have e:zQ (wG d.p)=⟨d.p.f,d.p.en,d.p.co,⟨d.p.rc.room,d.p.rc.mL,l,aa,0⟩,d.p.sd,d.p.md⟩:=by
    unfold zQ
    rw[show (wG d.p).rc=⟨d.p.rc.room,d.p.rc.mL,d.p.rc.items,aa,d.p.rc.Sy⟩ from rfl,Ft (Hq p4) (g:=g) (l:=l) hi]
    rfl
   rw[e]
   have ht:=ZC (Hq p4) (g:=g) (l:=l) hi
   exact⟨pV (jz p1 p2 p3 ht.1 p5) h2 h3 (WN h4) hl,by simp[smu,hi]<;>omega,rfl,rfl,rfl,rfl,rfl,⟨[],by simp⟩,rfl⟩
 ·rw[if_neg (λ hh=>hb (b2.1 hh)),if_neg (λ hh=>hb (b2.1 hh))]
  have hlo:d.p.rc.lost=ae:=by
   rcases hx with hx|hx
   ·exact hx
   ·exact absurd hx hb
  exact⟨pV (jz p1 p2 p3 (Hq p4) p5) h2 h3 h4 hl,by unfold smu;exact Ca (Ca (by simp[wG,hlo]) _) _,rfl,rfl,rfl,rfl,rfl,⟨[],by simp⟩,rfl⟩
theorem zfc{d:iY}(h:jj d=ae)(hx:d.p.rc.items≠[]):Kept d (JP d):=by
 obtain⟨h1,h2,h3,h4,h5⟩:=fu h
 obtain⟨p1,p2,p3,p4,p5⟩:=dV h1
 cases hi:d.p.rc.items with
 |nil=>exact absurd hi hx
 |cons g l=>
  have e:zQ d.p=⟨d.p.f,d.p.en,d.p.co,⟨d.p.rc.room,d.p.rc.mL,l,d.p.rc.lost,0⟩,d.p.sd,d.p.md⟩:=by
   unfold zQ
   rw[Ft p4 hi]
   rfl
  have ht:=ZC p4 hi
  unfold JP
  rw[e,Ft p4 hi]
  by_cases hc:d.tp.length<32
  ·rw[if_pos hc,if_pos hc]
   exact⟨pV (jz p1 p2 p3 ht.1 p5) ⟨by simp;omega,G8.2 ⟨h2.2,by simp[ko,ht.2]⟩⟩ h3 h4 h5,by simp[smu,hi]<;>omega,rfl,rfl,rfl,rfl,rfl,⟨_,rfl⟩,rfl⟩
  ·rw[if_neg hc,if_neg hc]
   exact⟨pV (jz p1 p2 p3 ht.1 p5) h2 h3 h4 (WN h5),by simp[smu,hi]<;>omega,rfl,rfl,rfl,rfl,rfl,⟨[],by simp⟩,rfl⟩
theorem step_empty{d:iY}(h:jj d=ae)(he:d.p.en/2 % 2=1)(hx:d.p.sd.items=[]):Kept d (y5 d):=by
 obtain⟨h1,h2,h3,h4,h5⟩:=fu h
 obtain⟨p1,p2,p3,p4,p5⟩:=dV h1
 unfold y5
 cases ho:d.out with
 |nil=>
  refine⟨pV (jz p1 (by omega) p3 p4 p5) h2 (by simp[ko]) h4 h5,?_,?_,?_,rfl,by simp[ho],rfl,⟨[],by simp⟩,rfl⟩
  ·unfold smu
   dsimp only
   rw[if_pos (show d.p.en/2 % 2=1/\d.p.sd.items=[] from⟨he,hx⟩),if_neg (show ¬((d.p.en-2)/2 % 2=1/\d.p.sd.items=[]) by omega)]
   omega
  ·dsimp only
   omega
  ·dsimp only
   omega
 |cons b r=>
  rw[ho] at h3
  have hv:=zae (b::r) d.p.sd p5 h3.2
  have hk:=QE (b::r) d.p.sd
  have hf:=zad p5 hx b r
  refine⟨pV (jz p1 p2 p3 p4 hv.1) h2 ⟨bD hk.2.2.2.2 h3.1,hv.2⟩ h4 h5,?_,rfl,rfl,rfl,by rw[ho];exact hk.1,hk.2.2.1,⟨[],by simp⟩,rfl⟩
  unfold smu
  dsimp only
  rw[if_pos (show d.p.en/2 % 2=1/\d.p.sd.items=[] from⟨he,hx⟩),if_neg (show ¬(d.p.en/2 % 2=1/\(mi d.p.sd (b::r)).1.items=[]) from λ hh=>hf hh.2)]
  omega
theorem zce{d:iY}(h:jj d=ae)(hx:JC d.p.md=ae):Kept d (CH d):=by
 obtain⟨h1,h2,h3,h4,h5⟩:=fu h
 obtain⟨p1,p2,p3,p4,p5⟩:=dV h1
 refine⟨pV (jz p1 p2 p3 p4 p5) h2 h3 h4 h5,?_,rfl,rfl,rfl,rfl,rfl,⟨[],by simp[CH]⟩,rfl⟩
 unfold smu
 refine Nat.add_lt_add_left ?_ _
 rw[if_pos hx]
 simp[CH,UO,JL,JC]
theorem Kd{d:iY}(h:jj d=ae)(hn:da d.p≠1):Kept d (rO d):=by
 unfold rO
 cases zbb (fu h).1 with
 |line e _ hx=>rw[if_pos e];exact zfd h hx
 |data e6 e2 e0 _ _ hx _=>rw[if_neg e6,if_neg e2,if_neg e0];exact zfc h hx
 |empty e he hx=>rw[if_neg (by omega),if_pos e];exact step_empty h he hx
 |zc3 e hx=>rw[if_neg (by omega),if_neg (by omega),if_pos e];exact zce h hx
 |none e _ _=>exact absurd e hn
theorem QD(n:Nat):∀d:iY,jj d=ae->smu d<n->jj (dA n d).1=ae/\da (dA n d).1.p=1/\0<=(dA n d).2/\(dA n d).2<=smu d/\
  (dA n d).1.p.en/4=d.p.en/4/\(dA n d).1.p.en % 2=d.p.en % 2/\(dA n d).1.p.rc.mL=d.p.rc.mL/\(dA n d).1.p.sd.items++(dA n d).1.out=d.p.sd.items++d.out/\(dA n d).1.p.sd.shift=d.p.sd.shift/\(∃l,(dA n d).1.tp=d.tp++l)/\(dA n d).1.p.f=d.p.f:=by
 induction n with
 |zero=>intro d _ h;omega
 |succ n ih=>
  intro d hv h
  unfold dA
  split
  ·rename_i hn
   exact⟨hv,hn,Int.le_refl _,by simp,rfl,rfl,rfl,rfl,rfl,⟨[],by simp⟩,rfl⟩
  ·rename_i hn
   have hk:=Kd hv hn
   have hm:=hk.mu
   obtain⟨a1,a2,a3,a4,a5,a6,a7,a8,a9,⟨l2,a10⟩,a11⟩:=ih (rO d) hk.v (by omega)
   obtain⟨l1,hl⟩:=hk.tp
   exact⟨a1,a2,by dsimp only;omega,by dsimp only;omega,a5.trans hk.en4,a6.trans hk.en1,a7.trans hk.mL,a8.trans hk.way,a9.trans hk.shift,⟨l1++l2,by rw[a10,hl];simp⟩,a11.trans hk.f⟩
theorem zab{d:iY}(h:da d.p≠1):dA (n+1) d=((dA n (rO d)).1,(dA n (rO d)).2+1):=by
 rw[dA,if_neg h]
theorem zac{d:iY}(h:da d.p=1):dA n d=(d,0):=by
 cases n with
 |zero=>rfl
 |succ n=>rw[dA,if_pos h]
end
end Go.Proofs.YtdpfknhenjngcaaGreatDoor
