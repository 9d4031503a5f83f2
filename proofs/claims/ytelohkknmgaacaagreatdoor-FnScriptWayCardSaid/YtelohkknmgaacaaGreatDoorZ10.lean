/-
  The lone walks (part 10). No condition.
-/
import Derived.Test.YtelohkknmgaacaaGreatDoorZ9
import Derived.Conc.LoneCalls
import Derived.Lib.Bytealg
import Derived.Shelf.Strconv.Itoa1
import Derived.Shelf.Strconv.Itoa2
import Derived.Lib.ItoaMem
import Derived.Laws.IdiomStrings
import Derived.Laws.Externs
import Derived.BigCall
set_option linter.unusedSimpArgs false
set_option linter.unusedVariables false
set_option linter.unusedSectionVars false
set_option linter.defProp false
set_option maxRecDepth 100000
set_option maxHeartbeats 2000000
open Array renaming getElem?_eq_some_iff→ab,toList_inj→bj,replicate→aK,getElem?_setIfInBounds_ne→bZ,getD_eq_getD_getElem?→cE,getElem?_append_left→iP,getD→tA,size_replicate→mg
open BitVec renaming ofInt→aS
open Bool renaming and_eq_true→aj,true_or→G4,false_or→vS,false_eq_true→bt,noConfusion→dO,eq_false_iff→bV,or_eq_false_iff→gC
open Go renaming Program→al,FuncId→bu,Func→dH,World→V,Calls→dE,Value→Y,bodyPost_ret→dB,Code→eF,Frame→ag,Oper→bU,execOp→aG,step_lone_go→kx,stepG.apply→cD,Deferred→dI,TypeId→ah,Frame.enter→aF,callFunc→dp,run_callFunc_extern→sr
open Go.Act renaming eval→a8,put→oL
open Go.Calls renaming mono→b9
open Go.Ending renaming returned→nv
open Go.Frame renaming finish_at→dJ
open Go.IntKind renaming i64→aD
open Go.Lib renaming indexByte→gn,decDigits→im,nDigits→AS,bitLen→pY,zeros24→re
open Go.Region renaming wanted→ar
open Go.Result renaming andThen→er
open Go.RowKit renaming Below→cj
open Go.RowKit.Below renaming setCell→dh,refl→fq
open Go.RowKit.Hid renaming out→eh
open Go.Value renaming slice→dR,int→cL,agg→nU
open Int renaming le_refl→AQ,toNat→aC,emod_nonneg→gN,toNat_natCast→jr
open List renaming length_take→da,take_add_one→cW,length_cons→aW,all_cons→fh,take_of_length_le→aM,getD_eq_getElem?_getD→bA,drop_eq_nil_of_le→cK,append_nil→eu,range→ku,getElem?_eq_some_iff→bQ,getElem?_eq_getElem→aN,range'→AT,range'_succ→qf,drop_drop→jX,take_append_drop→iV,length_drop→iy,eq_nil_of_length_eq_zero→cq,take_zero→cT,length_append→bJ,set_eq_take_append_cons_drop→c7,count_le_length→mh,replicate→aP,length_nil→fN,length_pos_iff→mV,getD_cons_zero→ca,getD_cons_succ→cU
open Nat renaming ble→eI,le_trans→bw,le_refl→ao,zero_le→a7,add_lt_add_right→BW
open Prod renaming fst→oP
open UInt8 renaming ofNat→gz
open Bool renaming true→E,false→H
open Option renaming some→C,none→U
namespace Go.Proofs.YtelohkknmgaacaaGreatDoor
open Go.Proofs.Tryz
section
open Go.RowKit
namespace Ab
def zmR{P:al}{T:lJ}{G:bK}{TR:Nat->Tr}{f:bu}{u:dH}{s:List (Sh⊕List Sh)}{S:DA s->(DV->Prop)->Prop}(W:List Nat)(y:eV P T)(M:P.follows .mixedOrders=E)(z:aR P G)(a:P.funcs[f]?=C u)(N:eI s.length u.ntmps=E)(h:∀(x:DA s)(K:DV->Prop),S x K->bdA s x->ta s x λc=>s8 T G 0 W TR u c [] λr A=>∃d,MC A r d/\K d):fi P f s S:=by intro x K j w O B l;have⟨g,D⟩:=vc (β:=[]) B;have F:ki ⟨w,[]⟩ [] [] w:=⟨uO.refl _ _,rfl,λk t e h=>by simp at h,λi k b h=>by simp[cN]at h⟩;apply b9 (jx y M ⟨z,.inr ⟨l,Gm.nil⟩⟩ a F D (by simp_all[oR]) (mm.1 (h x K j g)));rintro e Q⟨v,r,J,bR,rfl,⟨d,m,n⟩,o,I,_⟩;have⟨L,p,q⟩:=UX I o m;exact⟨d,v,rfl,n,⟨I.kp.os,I.kp.tape,I.kp.output,I.kp.size,λb g=>I.kp.block b g Y1⟩,L,p,q⟩
def zt1(W:List Nat)(T:lJ)(G:bK)(a:Nat->Tr)(f:dH):CS:={S:=λx p K=>af (eI x.length f.ntmps=E)<|CY (IV p) λn=>s8 T G n W a f x p K,sb:=λ_=>U}
def zmU{P:al}{W:List Nat}{T:lJ}{G:bK}{t:Nat->Tr}{f:bu}{p:dH}(u:eV P T)(M:P.follows .mixedOrders=E)(x:aR P G)(a:P.funcs[f]?=C p)(o:(P.funcs[f]?).map (λp=>(p.name== "runtime.NumGoroutine",p.body.isNone))=C (H,H)):bF P f (zt1 W T G t p):=by refine⟨o,λz A K S B β w D I gl y=>?_⟩;have⟨i,j⟩:=aH.1 S;have d:=lY.1 j;rw[vd]at d;apply b9 (jx u M ⟨x,.inr gl⟩ a I y i d);rintro e F⟨v,r,q,bR,rfl,l,m,n,h⟩;refine⟨v,r,q,bR,rfl,l,m,⟨n,λk e g=>?_,λk b c=>(h.om k b c).imp Cp id,h.size,h.len,λk _ s=>(s trivial).elim,λb c s=>h.sb b c λk=>s k trivial⟩⟩;exact h.ext k e (by rw[<-I.len];grind) g
end Ab
open Go.RowKit
open Ab
abbrev K3:=Int×Int×Int
def kinds:List K3:=[(0,6,4),(1,4,1),(2,12,1),(3,2,2),(4,0,8),(5,1,0)]
def zH(n s r:Int)(m:Bool):Bool:=if n=6 then decide (2<=s%16)else if n=4 then decide (r=1)else if n=12 then decide (r=2)else if n=2 then decide (s/32%2=1)else if n=0 then m else H
def UM(b e:Int):Bool:=if b=4 then decide (e/4%2=1)else if b=1 then decide (e%2=1)else if b=2 then decide (e/2%2=1)else if b=8 then decide (e/8%2=1)else H
def lz(s r:Int)(m:Bool)(e:Int)(k:Nat):List K3:=(kinds.take k).filter λx=>UM x.2.2 e&&zH x.2.1 s r m
def zq9:∀n:Fin 128,decide (aD.wrap (aS aD.bits (n.val:Int)&&&aS aD.bits 14).toNat=0)=decide ((n.val:Int)%16<2):=by decide+kernel
def zra:∀n:Fin 128,decide (aD.wrap (aS aD.bits (n.val:Int)&&&aS aD.bits 32).toNat=0)=decide ((n.val:Int)/32%2=0):=by decide+kernel
def zuv:∀n:Fin 16,(decide (aD.wrap (aS aD.bits (n.val:Int)&&&aS aD.bits 4).toNat=0)=!UM 4 n.val)/\(decide (aD.wrap (aS aD.bits (n.val:Int)&&&aS aD.bits 1).toNat=0)=!UM 1 n.val)/\(decide (aD.wrap (aS aD.bits (n.val:Int)&&&aS aD.bits 2).toNat=0)=!UM 2 n.val)/\(decide (aD.wrap (aS aD.bits (n.val:Int)&&&aS aD.bits 8).toNat=0)=!UM 8 n.val)/\(decide (aD.wrap (aS aD.bits (n.val:Int)&&&aS aD.bits 0).toNat=0)=!UM 0 n.val):=by decide+kernel
def zkB(s r:Int)(m:Bool)(e:Int)(k:Nat):(lz s r m e k).length<=6:=by apply bw (List.length_filter_le _ _);rw[da];simp[kinds];omega
def zgp(s r:Int)(m:Bool)(e:Int){k:Nat}(a:k<=6):∀x∈lz s r m e k,x.1<k:=by intro x b;have:=(List.mem_filter.1 b).1;have h:∀k:Fin 7,∀x∈kinds.take k.val,x.1<(k.val:Int):=Y5;exact h ⟨k,Y0⟩ x this
variable{m:Bool}{e:Int}
def zkA{s r:Int}(h:0<=s/\s<=127/\0<=r/\r<=2/\0<=e/\e<=15):OI s r m e=(match lz s r m e 6 with|[]=>1|g::_=>g.2.1):=by
 unfold OI;rw[if_pos h];have a:UM 0 e=H:=by simp[UM]
 have b:UM 4 e=decide (e/4%2=1):=by simp[UM]
 have c:UM 1 e=decide (e%2=1):=by simp[UM]
 have d:UM 2 e=decide (e/2%2=1):=by simp[UM]
 have f:UM 8 e=decide (e/8%2=1):=by simp[UM]
 have i:zH 6 s r m=decide (2<=s%16):=by simp[zH]
 have l:zH 4 s r m=decide (r=1):=by simp[zH]
 have p:zH 12 s r m=decide (r=2):=by simp[zH]
 have n:zH 2 s r m=decide (s/32%2=1):=by simp[zH]
 have j:zH 0 s r m=m:=by simp[zH]
 have k:zH 1 s r m=H:=by simp[zH]
 simp[lz,kinds,List.take_succ_cons,List.filter_cons,List.filter_nil,a,c,d,b,f,j,k,n,l,i,p];by_cases a1:e/4%2=1/\2<=s%16;.simp[a1]
 by_cases a2:e%2=1/\r=1;.grind
 by_cases a3:e%2=1/\r=2;.grind
 by_cases a4:e/2%2=1/\s/32%2=1;.grind
 by_cases a5:e/8%2=1/\m=E;.grind
 .grind
def xc{s r:Int}(k:Nat){x:K3}(b:kinds[k]?=C x)(h:UM x.2.2 e=E)(a:zH x.2.1 s r m=E):lz s r m e k++[x]=lz s r m e (k+1):=by simp[lz,cW,b,h,a]
def Ci{s r:Int}(k:Nat){x:K3}(a:kinds[k]?=C x)(h:(UM x.2.2 e&&zH x.2.1 s r m)=H):lz s r m e k=lz s r m e (k+1):=by unfold lz;rw[cW,a,List.filter_append,Option.toList_some,List.filter_cons,h];simp
variable{a b:Int}
def U7{l:List K3}{x:K3}(r:∀y∈l,y.1<x.1)(h:a=l.length)(c:0<=b)(d:b<=l.length):¬((l++[x]).getD a.toNat (0,0,0)).1<((l++[x]).getD b.toNat (0,0,0)).1:=by grind
abbrev d3:K3:=(0,0,0)
variable{n:Nat}
def VX{L:List K3}{i j:Int}(h:L.length=n+1)(a:0<=i/\i<n)(b:0<=j/\j<n):((L.set i.toNat (L.getD j.toNat d3)).set j.toNat (L.getD i.toNat d3)).length=n+1/\((L.set i.toNat (L.getD j.toNat d3)).set j.toNat (L.getD i.toNat d3)).getD n d3=L.getD n d3:=by grind
def QP(g:K3)(l:List K3):(((g::l).set 0 ((g::l).getD (((g::l).length:Int)-1).toNat d3)).set (((g::l).length:Int)-1).toNat ((g::l).getD 0 d3)).length=l.length+1/\(((g::l).set 0 ((g::l).getD (((g::l).length:Int)-1).toNat d3)).set (((g::l).length:Int)-1).toNat ((g::l).getD 0 d3)).getD l.length d3=g:=by simp_all
def Ik:bK:=[]
def B4:aR aa.prog Ik:=an trivial
def zu:DA [.inl .int,.inl .int,.inl .int,.inl .bool]->(DV->Prop)->Prop:=λ⟨n,s,r,m,_⟩K=>af (0<=s/\s<=127)<|K (.l (.v (.bool (zH n s r m))))
def H2:fi aa.prog 221 [.inl .int,.inl .int,.inl .int,.inl .bool] zu:=by
 refine aV (TR:=eT) aJ au B4 (Rn.fM func221) rfl ?_;rintro⟨(n:Int),(s:Int),(r:Int),(m:Bool),_⟩K⟨hs,hK⟩_;replace hK:K (.l (.v (.bool (zH n s r m)))):=hK;replace hs:0<=s/\s<=127:=hs;obtain⟨q,rfl⟩:∃q:Fin 128,(q.val:Int)=s:=⟨⟨s.toNat,Y0⟩,by simp;omega⟩;have b:=zq9 q;have a:=zra q;repeat'(conv=>whnf);first|refine U0 ?_ ?_;exact gS|refine U1 ?_|apply gU;exact gA|refine gB ?_ ?_<;>intro c h<;>try exact bG
 all_goals(refine gI hK ?_;repeat' first|exact gR|refine U0 ?_ ?_)
 all_goals clear hK;subst_vars;simp_all[zH];try(rw[<-decide_not];exact decide_eq_decide.2 Y0)
def zg:CS:=cz [.inl .int,.inl .int,.inl .int,.inl .bool] zu
def E6:bF aa.prog 221 zg:=bc H2
def BN:bK:=[]
def Il:aR aa.prog BN:=an trivial
def Hd:CS:=FQ fQ BN eT f220
def MP:bF aa.prog 220 Hd:=eP aJ au Il (Rn.fM func220)
def vz:bK:=[]
def B5:aR aa.prog vz:=an trivial
def nC:CS:=FQ fQ vz eT f223
def nM:bF aa.prog 223 nC:=eP aJ au B5 (Rn.fM func223)
def uF:bK:=[]
def zU:aR aa.prog uF:=an trivial
def IE:Nat->Tr:=λn=>match n with|1=>iu [0,0,1,0,2,0,3,0,4,0,5,0,6,1,7,1,8,1,9,1,10,1,11,2] .nil|_=>.nil
def qj:CS:=FQ fQ uF IE f267
def so:bF aa.prog 267 qj:=eP aJ au zU (Rn.fM func267)
def uH:bK:=[]
def zW:aR aa.prog uH:=an trivial
def IG:Nat->Tr:=λn=>match n with|0=>iu [0,0,1,0,2,0,3,0,4,0,5,0,6,0,8,0,9,0,10,0] (.iY 7 1 (iu [11,1,12,1,13,1,14,1,15,2] .nil) 11 1 (iu [7,1,12,1,13,1,14,1,15,2] .nil))|_=>.nil
def mH:CS:=zt1 [0] fQ uH IG f270
def mX:bF aa.prog 270 mH:=zmU aJ au zW (Rn.fM func270) gK
def uG:bK:=[]
def zV:aR aa.prog uG:=an trivial
def IF:Nat->Tr:=λn=>match n with|0=>iu [0,0,1,0,2,0,3,0,4,1,5,1,6,1,7,1,8,1,9,2] .nil|_=>.nil
def xD:CS:=FQ fQ uG IF f269
def C5:bF aa.prog 269 xD:=eP aJ au zV (Rn.fM func269)
def vC:bK:=[]
def B6:aR aa.prog vC:=an trivial
def zh:CS:=FQ fQ vC eT f268
def E7:bF aa.prog 268 zh:=eP aJ au B6 (Rn.fM func268)
def ZM:bK:=[(267,qj),(270,mH)]
def zaN:aR aa.prog ZM:=an ⟨so,mX,aA⟩
def ziL:CS:=FQ fQ ZM eT f242
def zfH:bF aa.prog 242 ziL:=eP aJ au zaN (Rn.fM func242)
def Qe:bK:=[(267,qj),(270,mH)]
def TT:aR aa.prog Qe:=an ⟨so,mX,aA⟩
def Zz:CS:=FQ fQ Qe eT f243
def zaG:bF aa.prog 243 Zz:=eP aJ au TT (Rn.fM func243)
def Qd:bK:=[(269,xD),(223,nC),(242,ziL)]
def TS:aR aa.prog Qd:=an ⟨C5,nM,zfH,aA⟩
def Zy:CS:=FQ fQ Qd eT f222
def zaF:bF aa.prog 222 Zy:=eP aJ au TS (Rn.fM func222)
def Vq:bK:=[(223,nC),(270,mH),(243,Zz),(268,zh)]
def X9:aR aa.prog Vq:=an ⟨nM,mX,zaG,E7,aA⟩
def zej:CS:=FQ fQ Vq eT f224
def zcn:bF aa.prog 224 zej:=eP aJ au X9 (Rn.fM func224)
def zaO:bK:=[(220,Hd),(221,zg),(222,Zy),(223,nC),(224,zej)]
def RQ:aR aa.prog zaO:=an ⟨MP,E6,zaF,nM,zcn,aA⟩
def Jy:DA [.inl .int,.inl .int,.inl .bool,.inl .int]->(DV->Prop)->Prop:=λ⟨s,r,m,e,_⟩K=>K (.l (.v (.int .i64 (OI s r m e))))
def zaK:fi aa.prog 199 [.inl .int,.inl .int,.inl .bool,.inl .int] Jy:=by
 refine aV (TR:=eT) aJ au RQ (Rn.fM func199) rfl ?_;rintro⟨(s:Int),(r:Int),(m:Bool),(e:Int),_⟩K hK _;dsimp only[Jy]at hK;repeat'(conv=>whnf);first|refine U0 ?_ ?_;exact gS|refine dS.mk ?_ ?_;exact wP|refine U1 ?_|apply gU;exact gA|refine gB ?_ ?_<;>intro d h<;>try exact bG
 iterate 6((refine gI hK ?_;repeat' first|exact gR|refine U0 ?_ ?_);(simp[OI];omega))
 have w:0<=s/\s<=127/\0<=r/\r<=2/\0<=e/\e<=15:=Y0;rw[zkA w]at hK;obtain⟨c,rfl⟩:∃q:Fin 16,(q.val:Int)=e:=⟨⟨e.toNat,Y0⟩,by simp;omega⟩;obtain⟨z,A,B,F,D⟩:=zuv c;repeat'(conv=>whnf);first|refine U0 ?_ ?_;exact gS|refine dS.mk ?_ ?_;exact wP|refine U1 ?_|apply gU;exact gA|refine gB ?_ ?_<;>intro d h<;>try exact bG
 refine dt.mI {x:Nat×List K3//x.1<=6/\x.2=lz s r m c.val x.1} (λ⟨(k,_),_⟩=>[(34,.j),(37,.l (.v (.int .i64 k)))]) (λ⟨(_,l),_⟩=>[(0,.r 0 265 (.k3 l)),(1,.b [.s 0 0] 263)]) (λ⟨(k,_),_⟩=>6-k) ⟨(0,[]),Y0,rfl⟩ [0,1,2] ?_ ?_;.repeat' first|refine U0 ?_ ?_;exact gV|exact aA
 rintro⟨⟨k,l⟩,y,a⟩;replace y:k<=6:=y;replace a:l=lz s r m c.val k:=a;have hlen:l.length<=6:=by rw[a];exact zkB _ _ _ _ _
 have f:∀x∈l,x.1<k:=by rw[a];exact zgp _ _ _ _ y
 have p:k=0\/k=1\/k=2\/k=3\/k=4\/k=5\/k=6:=Y0;rcases p with rfl|rfl|rfl|rfl|rfl|rfl|rfl;·((repeat'((conv=>whnf);first|refine U0 ?_ ?_;exact gS|refine U1 ?_|apply gU;exact gA|refine gB ?_ ?_<;>intro d h<;>try exact bG));all_goals first|(refine dt.it 2 ?_;(repeat'((conv=>whnf);first|refine U0 ?_ ?_;exact gS|refine U1 ?_|apply gU;exact gA|refine gB ?_ ?_<;>intro d h<;>try exact bG));all_goals first|(exfalso;refine U7 (x:=(0,6,4)) (l:=l) f ?_ ?_ ?_ Y3<;>(simp only[EL.len,EL.sz,EL.take,EL.drop,lH,la,ln,lc,ld,lt,ls,lna]at*;omega))|(exfalso;simp only[EL.len,EL.sz,EL.take,EL.drop,lH,la,ln,lc,ld,lt,ls,lna]at*;omega)|(have hn:l++[(0,6,4)]=lz s r m c.val 1:=(by rw[a];exact xc (s:=s) (r:=r) (m:=m) (e:=c.val) (1-1) (x:=(0,6,4)) rfl (by clear hK a;simp_all) (by clear hK a;simp_all));(refine ae ⟨(1,l++[(0,6,4)]),Y0,hn⟩ (ae [0,1,2] (aB ?_ ?_)));(focus(show(6-1:Nat)<6-(1-1);omega));(repeat' first|refine U0 ?_ ?_;exact gV|exact aA);done))|(have hn:l=lz s r m c.val 1:=(by rw[a];exact Ci (s:=s) (r:=r) (m:=m) (e:=c.val) (1-1) (x:=(0,6,4)) rfl (by clear hK a;simp_all));(refine ae ⟨(1,l),Y0,hn⟩ (ae [0,1,2] (aB ?_ ?_)));(focus(show(6-1:Nat)<6-(1-1);omega));(repeat' first|refine U0 ?_ ?_;exact gV|exact aA);done))
 ·((repeat'((conv=>whnf);first|refine U0 ?_ ?_;exact gS|refine U1 ?_|apply gU;exact gA|refine gB ?_ ?_<;>intro d h<;>try exact bG));all_goals first|(refine dt.it 2 ?_;(repeat'((conv=>whnf);first|refine U0 ?_ ?_;exact gS|refine U1 ?_|apply gU;exact gA|refine gB ?_ ?_<;>intro d h<;>try exact bG));all_goals first|(exfalso;refine U7 (x:=(1,4,1)) (l:=l) f ?_ ?_ ?_ Y3<;>(simp only[EL.len,EL.sz,EL.take,EL.drop,lH,la,ln,lc,ld,lt,ls,lna]at*;omega))|(exfalso;simp only[EL.len,EL.sz,EL.take,EL.drop,lH,la,ln,lc,ld,lt,ls,lna]at*;omega)|(have hn:l++[(1,4,1)]=lz s r m c.val 2:=(by rw[a];exact xc (s:=s) (r:=r) (m:=m) (e:=c.val) (2-1) (x:=(1,4,1)) rfl (by clear hK a;simp_all) (by clear hK a;simp_all));(refine ae ⟨(2,l++[(1,4,1)]),Y0,hn⟩ (ae [0,1,2] (aB ?_ ?_)));(focus(show(6-2:Nat)<6-(2-1);omega));(repeat' first|refine U0 ?_ ?_;exact gV|exact aA);done))|(have hn:l=lz s r m c.val 2:=(by rw[a];exact Ci (s:=s) (r:=r) (m:=m) (e:=c.val) (2-1) (x:=(1,4,1)) rfl (by clear hK a;simp_all));(refine ae ⟨(2,l),Y0,hn⟩ (ae [0,1,2] (aB ?_ ?_)));(focus(show(6-2:Nat)<6-(2-1);omega));(repeat' first|refine U0 ?_ ?_;exact gV|exact aA);done))
 ·((repeat'((conv=>whnf);first|refine U0 ?_ ?_;exact gS|refine U1 ?_|apply gU;exact gA|refine gB ?_ ?_<;>intro d h<;>try exact bG));all_goals first|(refine dt.it 2 ?_;(repeat'((conv=>whnf);first|refine U0 ?_ ?_;exact gS|refine U1 ?_|apply gU;exact gA|refine gB ?_ ?_<;>intro d h<;>try exact bG));all_goals first|(exfalso;refine U7 (x:=(2,12,1)) (l:=l) f ?_ ?_ ?_ Y3<;>(simp only[EL.len,EL.sz,EL.take,EL.drop,lH,la,ln,lc,ld,lt,ls,lna]at*;omega))|(exfalso;simp only[EL.len,EL.sz,EL.take,EL.drop,lH,la,ln,lc,ld,lt,ls,lna]at*;omega)|(have hn:l++[(2,12,1)]=lz s r m c.val 3:=(by rw[a];exact xc (s:=s) (r:=r) (m:=m) (e:=c.val) (3-1) (x:=(2,12,1)) rfl (by clear hK a;simp_all) (by clear hK a;simp_all));(refine ae ⟨(3,l++[(2,12,1)]),Y0,hn⟩ (ae [0,1,2] (aB ?_ ?_)));(focus(show(6-3:Nat)<6-(3-1);omega));(repeat' first|refine U0 ?_ ?_;exact gV|exact aA);done))|(have hn:l=lz s r m c.val 3:=(by rw[a];exact Ci (s:=s) (r:=r) (m:=m) (e:=c.val) (3-1) (x:=(2,12,1)) rfl (by clear hK a;simp_all));(refine ae ⟨(3,l),Y0,hn⟩ (ae [0,1,2] (aB ?_ ?_)));(focus(show(6-3:Nat)<6-(3-1);omega));(repeat' first|refine U0 ?_ ?_;exact gV|exact aA);done))
 ·((repeat'((conv=>whnf);first|refine U0 ?_ ?_;exact gS|refine U1 ?_|apply gU;exact gA|refine gB ?_ ?_<;>intro d h<;>try exact bG));all_goals first|(refine dt.it 2 ?_;(repeat'((conv=>whnf);first|refine U0 ?_ ?_;exact gS|refine U1 ?_|apply gU;exact gA|refine gB ?_ ?_<;>intro d h<;>try exact bG));all_goals first|(exfalso;refine U7 (x:=(3,2,2)) (l:=l) f ?_ ?_ ?_ Y3<;>(simp only[EL.len,EL.sz,EL.take,EL.drop,lH,la,ln,lc,ld,lt,ls,lna]at*;omega))|(exfalso;simp only[EL.len,EL.sz,EL.take,EL.drop,lH,la,ln,lc,ld,lt,ls,lna]at*;omega)|(have hn:l++[(3,2,2)]=lz s r m c.val 4:=(by rw[a];exact xc (s:=s) (r:=r) (m:=m) (e:=c.val) (4-1) (x:=(3,2,2)) rfl (by clear hK a;simp_all) (by clear hK a;simp_all));(refine ae ⟨(4,l++[(3,2,2)]),Y0,hn⟩ (ae [0,1,2] (aB ?_ ?_)));(focus(show(6-4:Nat)<6-(4-1);omega));(repeat' first|refine U0 ?_ ?_;exact gV|exact aA);done))|(have hn:l=lz s r m c.val 4:=(by rw[a];exact Ci (s:=s) (r:=r) (m:=m) (e:=c.val) (4-1) (x:=(3,2,2)) rfl (by clear hK a;simp_all));(refine ae ⟨(4,l),Y0,hn⟩ (ae [0,1,2] (aB ?_ ?_)));(focus(show(6-4:Nat)<6-(4-1);omega));(repeat' first|refine U0 ?_ ?_;exact gV|exact aA);done))
 ·((repeat'((conv=>whnf);first|refine U0 ?_ ?_;exact gS|refine U1 ?_|apply gU;exact gA|refine gB ?_ ?_<;>intro d h<;>try exact bG));all_goals first|(refine dt.it 2 ?_;(repeat'((conv=>whnf);first|refine U0 ?_ ?_;exact gS|refine U1 ?_|apply gU;exact gA|refine gB ?_ ?_<;>intro d h<;>try exact bG));all_goals first|(exfalso;refine U7 (x:=(4,0,8)) (l:=l) f ?_ ?_ ?_ Y3<;>(simp only[EL.len,EL.sz,EL.take,EL.drop,lH,la,ln,lc,ld,lt,ls,lna]at*;omega))|(exfalso;simp only[EL.len,EL.sz,EL.take,EL.drop,lH,la,ln,lc,ld,lt,ls,lna]at*;omega)|(have hn:l++[(4,0,8)]=lz s r m c.val 5:=(by rw[a];exact xc (s:=s) (r:=r) (m:=m) (e:=c.val) (5-1) (x:=(4,0,8)) rfl (by clear hK a;simp_all) (by clear hK a;simp_all));(refine ae ⟨(5,l++[(4,0,8)]),Y0,hn⟩ (ae [0,1,2] (aB ?_ ?_)));(focus(show(6-5:Nat)<6-(5-1);omega));(repeat' first|refine U0 ?_ ?_;exact gV|exact aA);done))|(have hn:l=lz s r m c.val 5:=(by rw[a];exact Ci (s:=s) (r:=r) (m:=m) (e:=c.val) (5-1) (x:=(4,0,8)) rfl (by clear hK a;simp_all));(refine ae ⟨(5,l),Y0,hn⟩ (ae [0,1,2] (aB ?_ ?_)));(focus(show(6-5:Nat)<6-(5-1);omega));(repeat' first|refine U0 ?_ ?_;exact gV|exact aA);done))
 .have G:UM 0 c.val=H:=by simp[UM]
  ((repeat'((conv=>whnf);first|refine U0 ?_ ?_;exact gS|refine U1 ?_|apply gU;exact gA|refine gB ?_ ?_<;>intro d h<;>try exact bG));all_goals first|(refine dt.it 2 ?_;(repeat'((conv=>whnf);first|refine U0 ?_ ?_;exact gS|refine U1 ?_|apply gU;exact gA|refine gB ?_ ?_<;>intro d h<;>try exact bG));all_goals first|(exfalso;refine U7 (x:=(5,1,0)) (l:=l) f ?_ ?_ ?_ Y3<;>(simp only[EL.len,EL.sz,EL.take,EL.drop,lH,la,ln,lc,ld,lt,ls,lna]at*;omega))|(exfalso;simp only[EL.len,EL.sz,EL.take,EL.drop,lH,la,ln,lc,ld,lt,ls,lna]at*;omega)|(have hn:l++[(5,1,0)]=lz s r m c.val 6:=(by rw[a];exact xc (s:=s) (r:=r) (m:=m) (e:=c.val) (6-1) (x:=(5,1,0)) rfl (by clear hK a;simp_all) (by clear hK a;simp_all));(refine ae ⟨(6,l++[(5,1,0)]),Y0,hn⟩ (ae [0,1,2] (aB ?_ ?_)));(focus(show(6-6:Nat)<6-(6-1);omega));(repeat' first|refine U0 ?_ ?_;exact gV|exact aA);done))|(have hn:l=lz s r m c.val 6:=(by rw[a];exact Ci (s:=s) (r:=r) (m:=m) (e:=c.val) (6-1) (x:=(5,1,0)) rfl (by clear hK a;simp_all));(refine ae ⟨(6,l),Y0,hn⟩ (ae [0,1,2] (aB ?_ ?_)));(focus(show(6-6:Nat)<6-(6-1);omega));(repeat' first|refine U0 ?_ ?_;exact gV|exact aA);done))
 .rw[<-a]at hK;cases l with|nil=>exact gWf|cons g l=>
   repeat'(conv=>whnf);first|refine U0 ?_ ?_;exact gS|refine dS.mk ?_ ?_;exact wP|refine U1 ?_|apply gU;exact gA|refine gB ?_ ?_<;>intro d h<;>try exact bG
   refine dt.mI {x:Int×List K3//(0<=x.1/\x.1<=l.length)/\x.2.length=l.length+1/\x.2.getD l.length d3=g} (λ⟨(i,_),_⟩=>[(7,.l (.v (.int .i64 i)))]) (λ⟨(_,L),_⟩=>[(0,.r 0 265 (.k3 L))]) (λ⟨(i,_),_⟩=>((l.length:Int)-i).toNat) ⟨(0,((g::l).set 0 ((g::l).getD (((g::l).length:Int)-1).toNat d3)).set (((g::l).length:Int)-1).toNat ((g::l).getD 0 d3)),⟨AQ 0,Y0⟩,(QP g l).1,(QP g l).2⟩ [0,1,2] ?_ ?_;.repeat' first|refine U0 ?_ ?_;exact gV|exact aA
   rintro⟨⟨i,L⟩,hi,u,t⟩;replace hi:0<=i/\i<=l.length:=hi;replace u:L.length=l.length+1:=u;replace t:L.getD l.length d3=g:=t;simp only[aW]at hlen;repeat'(conv=>whnf);first|refine U0 ?_ ?_;exact gS|refine dS.mk ?_ ?_;exact wP|refine U1 ?_|apply gU;exact gA|refine gB ?_ ?_<;>intro d h<;>try exact bG
   all_goals first|(have o:=VX (n:=l.length) (L:=L) (i:=i) (j:=2*i+1+1) u (by simp only[aW,EL.len]at*;omega) (by simp only[aW,EL.len]at*;omega);(refine ae ⟨(2*i+1+1,(L.set i.toNat (L.getD (aC (2*i+1+1)) d3)).set (aC (2*i+1+1)) (L.getD i.toNat d3)),(by simp only[aW,EL.len]at*;omega),o.1,o.2.trans t⟩ (ae [0,1,2] (aB ?_ ?_)));(focus(show((l.length:Int)-(2*i+1+1)).toNat<((l.length:Int)-i).toNat;simp only[aW,EL.len]at*;omega));(repeat' first|refine U0 ?_ ?_;exact gV|exact aA);done)|(have o:=VX (n:=l.length) (L:=L) (i:=i) (j:=2*i+1) u (by simp only[aW,EL.len]at*;omega) (by simp only[aW,EL.len]at*;omega);(refine ae ⟨(2*i+1,(L.set i.toNat (L.getD (aC (2*i+1)) d3)).set (aC (2*i+1)) (L.getD i.toNat d3)),(by simp only[aW,EL.len]at*;omega),o.1,o.2.trans t⟩ (ae [0,1,2] (aB ?_ ?_)));(focus(show((l.length:Int)-(2*i+1)).toNat<((l.length:Int)-i).toNat;simp only[aW,EL.len]at*;omega));(repeat' first|refine U0 ?_ ?_;exact gV|exact aA);done)|skip
   all_goals(refine gI hK ?_;repeat' first|exact gR|refine U0 ?_ ?_);show(L.getD ((L.length:Int)-1).toNat d3).2.1=g.2.1;rw[show((L.length:Int)-1).toNat=l.length by omega,t]
def Vi:CS:=cz [.inl .int,.inl .int,.inl .bool,.inl .int] Jy
def XT:bF aa.prog 199 Vi:=bc zaK
def zqv(b:Int):Bool:=b==1||b==2||b==4||b==8||b==32
def zmK(h:zqv b=E):b=1\/b=2\/b=4\/b=8\/b=32:=by simp[zqv]at h;omega
def Yd:bK:=[]
def NU:aR aa.prog Yd:=an trivial
def QF:DA [.inl .int,.inl .int]->(DV->Prop)->Prop:=λ⟨n,b,_⟩K=>af (0<=n/\n<=127)<|af (zqv b=E)<|K (.l (.v (.bool (decide (n/b%2=1)))))
def X1:fi aa.prog 95 [.inl .int,.inl .int] QF:=by refine aV (TR:=eT) aJ au NU (Rn.fM func95) rfl ?_;rintro⟨(n:Int),(b:Int),_⟩K⟨s,h,hK⟩_;replace hK:K (.l (.v (.bool (decide (n/b%2=1))))):=hK;replace s:0<=n/\n<=127:=s;replace h:b=1\/b=2\/b=4\/b=8\/b=32:=zmK h;rcases h with rfl|rfl|rfl|rfl|rfl;all_goals exact gW
def tF:CS:=cz [.inl .int,.inl .int] QF
def qH:bF aa.prog 95 tF:=bc X1
def zaP:bK:=[(89,jf),(95,tF)]
def Sf:aR aa.prog zaP:=an ⟨eZ,qH,aA⟩
def Jz:DA [.inl .int,.inl .int,.inl .bool,.inl .int]->(DV->Prop)->Prop:=λ⟨s,r,m,e,_⟩K=>K (.l (.v (.int .i64 (OI s r m e))))
def zaL:fi aa.prog 180 [.inl .int,.inl .int,.inl .bool,.inl .int] Jz:=by
 refine aV (TR:=eT) aJ au Sf (Rn.fM func180) rfl ?_;rintro⟨(s:Int),(r:Int),(m:Bool),(e:Int),_⟩K hK _;dsimp only[Jz]at hK;repeat'(conv=>whnf);first|refine U0 ?_ ?_;exact gS|refine U1 ?_|apply gU;exact gA|refine gB ?_ ?_<;>intro b h<;>try exact bG
 ·(refine gI hK ?_;repeat' first|exact gR|refine U0 ?_ ?_);clear hK;simp_all[OI];omega
 ·(refine gI hK ?_;repeat' first|exact gR|refine U0 ?_ ?_);clear hK;simp_all[OI];omega
 ·(refine gI hK ?_;repeat' first|exact gR|refine U0 ?_ ?_);clear hK;simp_all[OI];omega
 have a:(0:Int)<=s/\s<=(127:Int):=Y3;have c:(0:Int)<=r/\r<=(2:Int):=Y3;have d:(0:Int)<=e/\e<=(15:Int):=Y3;repeat'(conv=>whnf);first|refine U0 ?_ ?_;exact gS|refine U1 ?_|apply gU;exact gA|refine gB ?_ ?_<;>intro b h<;>try exact bG
 all_goals(refine gI hK ?_;repeat' first|exact gR|refine U0 ?_ ?_);clear hK;simp_all[OI]
def Vj:CS:=cz [.inl .int,.inl .int,.inl .bool,.inl .int] Jz
def XW:bF aa.prog 180 Vj:=bc zaL
def TV:bK:=[(51,jI),(72,yb),(200,mY),(201,uC),(202,xC),(199,Vi)]
def Ki:aR aa.prog TV:=an ⟨iz,vY,pr,zQ,C4,XT,aA⟩
def Yq:Nat->Tr:=λn=>match n with|4=>iu [0,0,2,0,4,0,5,0,7,0,8,0,1,1,3,1,6,1,9,1,10,2] .nil|_=>.nil
def A2:DA [mQ]->(DV->Prop)->Prop:=λ⟨⟨f,b,h,p,i,r,rt,c,j,d,s,k,n,e,o,g,m,a,_⟩,_⟩K=>K (.l (.v (.int .i64 (cS ⟨⟨f,b,h⟩,p,i,⟨r,rt,c,j,d⟩,⟨s,k,n,e⟩,⟨o,g,m,a⟩⟩))))
def Tq:fi aa.prog 165 [mQ] A2:=by
 refine aV (TR:=Yq) aJ au Ki (Rn.fM func165) rfl ?_;dsimp only[DA,HL,Sh.T];rintro⟨⟨f,e,l,g,t,r,rt,b,n,c,s,o,q,d,u,i,m,a,_⟩,_⟩K hK _;dsimp only[A2]at hK;by_cases v:eL ⟨⟨f,e,l⟩,g,t,⟨r,rt,b,n,c⟩,⟨s,o,q,d⟩,⟨u,i,m,a⟩⟩=E
 .have j:0<=fV ⟨r,rt,b,n,c⟩+jU ⟨s,o,q,d⟩/\fV ⟨r,rt,b,n,c⟩+jU ⟨s,o,q,d⟩<=127:=tr (p:=⟨⟨f,e,l⟩,g,t,⟨r,rt,b,n,c⟩,⟨s,o,q,d⟩,⟨u,i,m,a⟩⟩) v;repeat'(conv=>whnf);first|refine U0 ?_ ?_;exact gS|refine U1 ?_|apply gU;exact gA|refine gB ?_ ?_<;>intro k h<;>try exact bG
  all_goals(refine gI hK ?_;repeat' first|exact gR|refine U0 ?_ ?_);simp[cS,v,gu]
 .replace v:eL ⟨⟨f,e,l⟩,g,t,⟨r,rt,b,n,c⟩,⟨s,o,q,d⟩,⟨u,i,m,a⟩⟩=H:=by simpa using v
  repeat'(conv=>whnf);first|refine U0 ?_ ?_;exact gS|refine U1 ?_|apply gU;exact gA|refine gB ?_ ?_<;>intro k h<;>try exact bG
  all_goals(refine gI hK ?_;repeat' first|exact gR|refine U0 ?_ ?_);simp[cS,v]
def AW:CS:=cz [mQ] A2
def Bx:bF aa.prog 165 AW:=bc Tq
def T3:bK:=[(64,kZ),(181,v8),(182,DK),(183,xF),(180,Vj)]
def Kx:aR aa.prog T3:=an ⟨kg,xG,JR,C6,XW,aA⟩
def Yt:Nat->Tr:=λn=>match n with|3=>iu [0,0,2,0,3,0,5,0,6,0,8,0,9,0,1,1,4,1,7,1,10,1,11,2] .nil|_=>.nil
def A7:DA [mQ]->(DV->Prop)->Prop:=λ⟨⟨f,b,h,p,i,r,rt,c,j,d,s,k,n,e,o,g,m,a,_⟩,_⟩K=>K (.l (.v (.int .i64 (cS ⟨⟨f,b,h⟩,p,i,⟨r,rt,c,j,d⟩,⟨s,k,n,e⟩,⟨o,g,m,a⟩⟩))))
def Tx:fi aa.prog 139 [mQ] A7:=by
 refine aV (TR:=Yt) aJ au Kx (Rn.fM func139) rfl ?_;dsimp only[DA,HL,Sh.T];rintro⟨⟨f,e,l,g,t,r,rt,b,n,c,s,o,q,d,u,i,m,a,_⟩,_⟩K hK _;dsimp only[A7]at hK;by_cases v:eL ⟨⟨f,e,l⟩,g,t,⟨r,rt,b,n,c⟩,⟨s,o,q,d⟩,⟨u,i,m,a⟩⟩=E
 .have j:0<=fV ⟨r,rt,b,n,c⟩+jU ⟨s,o,q,d⟩/\fV ⟨r,rt,b,n,c⟩+jU ⟨s,o,q,d⟩<=127:=tr (p:=⟨⟨f,e,l⟩,g,t,⟨r,rt,b,n,c⟩,⟨s,o,q,d⟩,⟨u,i,m,a⟩⟩) v;repeat'(conv=>whnf);first|refine U0 ?_ ?_;exact gS|refine U1 ?_|apply gU;exact gA|refine gB ?_ ?_<;>intro k h<;>try exact bG
  all_goals(refine gI hK ?_;repeat' first|exact gR|refine U0 ?_ ?_);simp[cS,v,gu]
 .replace v:eL ⟨⟨f,e,l⟩,g,t,⟨r,rt,b,n,c⟩,⟨s,o,q,d⟩,⟨u,i,m,a⟩⟩=H:=by simpa using v
  repeat'(conv=>whnf);first|refine U0 ?_ ?_;exact gS|refine U1 ?_|apply gU;exact gA|refine gB ?_ ?_<;>intro k h<;>try exact bG
  all_goals(refine gI hK ?_;repeat' first|exact gR|refine U0 ?_ ?_);simp[cS,v]
def AY:CS:=cz [mQ] A7
def BI:bF aa.prog 139 AY:=bc Tx
def wW(r t:Int):sZ:=⟨⟨8,0,1⟩,0,0,⟨r,t,[],H,0⟩,⟨r,[],-1,0⟩,zqR⟩
structure zh1 where
 p:sZ
 ok:Bool
def pF(r t:Int):zh1:=if eL (wW r t)then⟨wW r t,E⟩else⟨Ej,H⟩
def zh1.d(x:zh1):DV:=.t [.inr x.p.d,.inl (.v (.bool x.ok))]
structure O5 where
 p:sZ
 n:Int
 ok:Bool
def yZ(p:sZ):sZ:=⟨p.f,p.en,p.co,if(eH p.rc).ok then(eH p.rc).r else p.rc,p.sd,p.md⟩
def vP(p:sZ):sZ:=⟨p.f,p.en,p.co,⟨p.rc.bS,p.rc.lh,p.rc.items,H,p.rc.CP⟩,p.sd,p.md⟩
def UZ(p:sZ):sZ:=⟨p.f,p.en,p.co,p.rc,p.sd,WZ p.md⟩
def bI(p:sZ)(g:Int):O5:=if eL p then( if g=0 then⟨yZ p,(eH p.rc).g.1,E⟩else if g=1 then⟨p,p.en,E⟩else if g=2 then⟨p,cS p,E⟩else if g=3 then⟨p,Wq p.f,E⟩else if g=4 then⟨p,p.co,E⟩else if g=5 then⟨vP p,gu p,E⟩else if g=6 then⟨UZ p,Ar p.md,E⟩else⟨Ej,0,H⟩)else⟨Ej,0,H⟩
def O5.d(x:O5):DV:=.t [.inr x.p.d,.inl (.v (.int .i64 x.n)),.inl (.v (.bool x.ok))]
def zcW{x:z7}(h:(eH x).ok=H):(eH x).g.1=0:=by
 revert h;unfold eH;split;.split<;>simp
 .simp
def zgw(x:z7):(eH x).r.items.length<=x.items.length:=by
 unfold eH;split;.split<;>rename_i e<;>simp[e,IW]
 .simp[IW]
def nV(x:sZ)(g:Int):(bI x g).p.rc.items.length<=x.rc.items.length/\(bI x g).p.sd.items.length<=x.sd.items.length:=by
 unfold bI;split
 .repeat' split
  all_goals first|(refine⟨?_,ao _⟩;show(if(eH x.rc).ok=E then(eH x.rc).r else x.rc).items.length<=_;split;exact zgw _;exact ao _)|exact⟨ao _,ao _⟩|exact⟨a7 _,a7 _⟩
 .exact⟨a7 _,a7 _⟩
def TW:bK:=[(51,jI)]
def Kj:aR aa.prog TW:=an ⟨iz,aA⟩
def A3:DA [.inl .int,.inl .int]->(DV->Prop)->Prop:=λ⟨r,t,_⟩K=>K (pF r t).d
def Ts:fi aa.prog 33 [.inl .int,.inl .int] A3:=by
 refine aV (TR:=eT) aJ au Kj (Rn.fM func33) rfl ?_;rintro⟨(r:Int),(t:Int),_⟩K hK _;dsimp only[A3]at hK;by_cases v:eL (wW r t)=E
 .rw[show pF r t=⟨wW r t,E⟩by simp[pF,v]]at hK;replace v:eL ⟨⟨8,0,1⟩,0,0,⟨r,t,[],H,0⟩,⟨r,[],-1,0⟩,⟨H,H,H,H⟩⟩=E:=v;exact gW
 .replace v:eL (wW r t)=H:=by simpa using v
  rw[show pF r t=⟨Ej,H⟩by simp[pF,v]]at hK;replace v:eL ⟨⟨8,0,1⟩,0,0,⟨r,t,[],H,0⟩,⟨r,[],-1,0⟩,⟨H,H,H,H⟩⟩=H:=v;exact gW
def Lw:CS:=cz [.inl .int,.inl .int] A3
def QV:bF aa.prog 33 Lw:=bc Ts
def T4:bK:=[(64,kZ)]
def Ky:aR aa.prog T4:=an ⟨kg,aA⟩
def A8:DA [.inl .int,.inl .int]->(DV->Prop)->Prop:=λ⟨r,t,_⟩K=>K (pF r t).d
def Ty:fi aa.prog 43 [.inl .int,.inl .int] A8:=by
 refine aV (TR:=eT) aJ au Ky (Rn.fM func43) rfl ?_;rintro⟨(r:Int),(t:Int),_⟩K hK _;dsimp only[A8]at hK;by_cases v:eL (wW r t)=E
 .rw[show pF r t=⟨wW r t,E⟩by simp[pF,v]]at hK;replace v:eL ⟨⟨8,0,1⟩,0,0,⟨r,t,[],H,0⟩,⟨r,[],-1,0⟩,⟨H,H,H,H⟩⟩=E:=v;exact gW
 .replace v:eL (wW r t)=H:=by simpa using v
  rw[show pF r t=⟨Ej,H⟩by simp[pF,v]]at hK;replace v:eL ⟨⟨8,0,1⟩,0,0,⟨r,t,[],H,0⟩,⟨r,[],-1,0⟩,⟨H,H,H,H⟩⟩=H:=v;exact gW
def LH:CS:=cz [.inl .int,.inl .int] A8
def Q8:bF aa.prog 43 LH:=bc Ty
variable{p:sZ}{g:Int}
def Qx(h:g<0\/6<g):bI p g=⟨Ej,0,H⟩:=by
 unfold bI;split;.rw[if_neg Y0,if_neg Y0,if_neg Y0,if_neg Y0,if_neg Y0,if_neg Y0,if_neg Y0]
 .rfl
def RY:bK:=[(51,jI),(106,sL),(236,G9),(165,AW),(237,Bv),(72,yb),(200,mY),(238,Dz)]
def Ic:aR aa.prog RY:=an ⟨iz,rW,ML,Bx,HI,vY,pr,JJ,aA⟩
def Uz:Nat->Tr:=λn=>match n with|10=>iu [0,0,1,0,2,0,3,1,4,1,5,2] .nil|_=>.nil
def yC:DA [mQ,.inl .int]->(DV->Prop)->Prop:=λ⟨⟨f,b,j,p,k,r,rt,c,l,e,s,n,o,h,q,i,m,a,_⟩,g,_⟩K=>K (bI ⟨⟨f,b,j⟩,p,k,⟨r,rt,c,l,e⟩,⟨s,n,o,h⟩,⟨q,i,m,a⟩⟩ g).d
def Ru:fi aa.prog 217 [mQ,.inl .int] yC:=by
 refine zmR (TR:=Uz) [0] aJ au Ic (Rn.fM func217) rfl ?_;dsimp only[DA,HL,Sh.T];rintro⟨⟨f,h,n,i,v,c,rt,b,q,d,s,t,u,e,w,j,m,a,_⟩,g,_⟩K hK⟨⟨_,_,_,_,_,_,_,hrl,_,_,_,hsl,_⟩,_⟩;dsimp only[yC]at hK;replace hrl:=gl b hrl;replace hsl:=gl t hsl;by_cases x:eL ⟨⟨f,h,n⟩,i,v,⟨c,rt,b,q,d⟩,⟨s,t,u,e⟩,⟨w,j,m,a⟩⟩=E
 .have k:0<=fV ⟨c,rt,b,q,d⟩+jU ⟨s,t,u,e⟩/\fV ⟨c,rt,b,q,d⟩+jU ⟨s,t,u,e⟩<=127:=tr (p:=⟨⟨f,h,n⟩,i,v,⟨c,rt,b,q,d⟩,⟨s,t,u,e⟩,⟨w,j,m,a⟩⟩) x;have y:g=0\/g=1\/g=2\/g=3\/g=4\/g=5\/g=6\/(g<0\/6<g):=Y0;rcases y with rfl|rfl|rfl|rfl|rfl|rfl|rfl|l
  .by_cases o:(eH ⟨c,rt,b,q,d⟩).ok=E;.rw[show bI ⟨⟨f,h,n⟩,i,v,⟨c,rt,b,q,d⟩,⟨s,t,u,e⟩,⟨w,j,m,a⟩⟩ 0=⟨⟨⟨f,h,n⟩,i,v,(eH ⟨c,rt,b,q,d⟩).r,⟨s,t,u,e⟩,⟨w,j,m,a⟩⟩,(eH ⟨c,rt,b,q,d⟩).g.1,E⟩by simp[bI,x,yZ,o]]at hK;exact gW
   .replace o:(eH ⟨c,rt,b,q,d⟩).ok=H:=by simpa using o
    rw[show bI ⟨⟨f,h,n⟩,i,v,⟨c,rt,b,q,d⟩,⟨s,t,u,e⟩,⟨w,j,m,a⟩⟩ 0=⟨⟨⟨f,h,n⟩,i,v,⟨c,rt,b,q,d⟩,⟨s,t,u,e⟩,⟨w,j,m,a⟩⟩,0,E⟩by simp[bI,x,yZ,o,zcW o]]at hK;exact gW
  .rw[show bI ⟨⟨f,h,n⟩,i,v,⟨c,rt,b,q,d⟩,⟨s,t,u,e⟩,⟨w,j,m,a⟩⟩ 1=⟨⟨⟨f,h,n⟩,i,v,⟨c,rt,b,q,d⟩,⟨s,t,u,e⟩,⟨w,j,m,a⟩⟩,i,E⟩by simp[bI,x]]at hK;exact gW
  .rw[show bI ⟨⟨f,h,n⟩,i,v,⟨c,rt,b,q,d⟩,⟨s,t,u,e⟩,⟨w,j,m,a⟩⟩ 2=⟨⟨⟨f,h,n⟩,i,v,⟨c,rt,b,q,d⟩,⟨s,t,u,e⟩,⟨w,j,m,a⟩⟩,cS ⟨⟨f,h,n⟩,i,v,⟨c,rt,b,q,d⟩,⟨s,t,u,e⟩,⟨w,j,m,a⟩⟩,E⟩by simp[bI,x]]at hK;exact gW
  .rw[show bI ⟨⟨f,h,n⟩,i,v,⟨c,rt,b,q,d⟩,⟨s,t,u,e⟩,⟨w,j,m,a⟩⟩ 3=⟨⟨⟨f,h,n⟩,i,v,⟨c,rt,b,q,d⟩,⟨s,t,u,e⟩,⟨w,j,m,a⟩⟩,Wq ⟨f,h,n⟩,E⟩by simp[bI,x]]at hK;exact gW
  .rw[show bI ⟨⟨f,h,n⟩,i,v,⟨c,rt,b,q,d⟩,⟨s,t,u,e⟩,⟨w,j,m,a⟩⟩ 4=⟨⟨⟨f,h,n⟩,i,v,⟨c,rt,b,q,d⟩,⟨s,t,u,e⟩,⟨w,j,m,a⟩⟩,v,E⟩by simp[bI,x]]at hK;exact gW
  .rw[show bI ⟨⟨f,h,n⟩,i,v,⟨c,rt,b,q,d⟩,⟨s,t,u,e⟩,⟨w,j,m,a⟩⟩ 5=⟨vP ⟨⟨f,h,n⟩,i,v,⟨c,rt,b,q,d⟩,⟨s,t,u,e⟩,⟨w,j,m,a⟩⟩,fV ⟨c,rt,b,q,d⟩+jU ⟨s,t,u,e⟩,E⟩by simp[bI,x,gu]]at hK;exact gW
  .rw[show bI ⟨⟨f,h,n⟩,i,v,⟨c,rt,b,q,d⟩,⟨s,t,u,e⟩,⟨w,j,m,a⟩⟩ 6=⟨UZ ⟨⟨f,h,n⟩,i,v,⟨c,rt,b,q,d⟩,⟨s,t,u,e⟩,⟨w,j,m,a⟩⟩,Ar ⟨w,j,m,a⟩,E⟩by simp[bI,x]]at hK;exact gW
  .rw[Qx l]at hK;exact gW
 .replace x:eL ⟨⟨f,h,n⟩,i,v,⟨c,rt,b,q,d⟩,⟨s,t,u,e⟩,⟨w,j,m,a⟩⟩=H:=by simpa using x
  rw[show bI ⟨⟨f,h,n⟩,i,v,⟨c,rt,b,q,d⟩,⟨s,t,u,e⟩,⟨w,j,m,a⟩⟩ g=⟨Ej,0,H⟩by simp[bI,x]]at hK;exact gW
def G8:CS:=cz [mQ,.inl .int] yC
def MK:bF aa.prog 217 G8:=bc Ru
def Sj:bK:=[(64,kZ),(89,jf),(113,rA),(186,Hh),(139,AY),(187,BF),(181,v8),(188,DI)]
def Iv:aR aa.prog Sj:=an ⟨kg,eZ,o9,MU,BI,HU,xG,JP,aA⟩
def UB:Nat->Tr:=λn=>match n with|9=>iu [0,0,1,0,2,0,3,1,4,2,5,2] .nil|11=>iu [0,0,1,0,2,0,3,1,4,2,5,2] .nil|13=>iu [0,0,1,1,2,1,3,2,4,2,5,2] .nil|15=>iu [0,0,1,1,2,1,3,1,4,2,5,2,6,2] .nil|17=>iu [0,0,1,0,2,0,3,1,4,2,5,2] .nil|20=>iu [0,0,1,1,2,1,3,2,4,2,5,2] .nil|_=>.nil
def yK:DA [mQ,.inl .int]->(DV->Prop)->Prop:=λ⟨⟨f,b,j,p,k,r,rt,c,l,e,s,n,o,h,q,i,m,a,_⟩,g,_⟩K=>K (bI ⟨⟨f,b,j⟩,p,k,⟨r,rt,c,l,e⟩,⟨s,n,o,h⟩,⟨q,i,m,a⟩⟩ g).d
def RH:fi aa.prog 142 [mQ,.inl .int] yK:=by
 refine aV (TR:=UB) aJ au Iv (Rn.fM func142) rfl ?_;dsimp only[DA,HL,Sh.T];rintro⟨⟨f,i,t,j,x,c,rt,b,u,d,s,v,w,e,y,k,m,a,_⟩,g,_⟩K hK⟨⟨_,_,_,_,_,_,_,hrl,_,_,_,hsl,_⟩,_⟩;dsimp only[yK]at hK;replace hrl:=gl b hrl;replace hsl:=gl v hsl;by_cases z:eL ⟨⟨f,i,t⟩,j,x,⟨c,rt,b,u,d⟩,⟨s,v,w,e⟩,⟨y,k,m,a⟩⟩=E
 .have l:0<=fV ⟨c,rt,b,u,d⟩+jU ⟨s,v,w,e⟩/\fV ⟨c,rt,b,u,d⟩+jU ⟨s,v,w,e⟩<=127:=tr (p:=⟨⟨f,i,t⟩,j,x,⟨c,rt,b,u,d⟩,⟨s,v,w,e⟩,⟨y,k,m,a⟩⟩) z;have A:g=0\/g=1\/g=2\/g=3\/g=4\/g=5\/g=6\/(g<0\/6<g):=Y0;rcases A with rfl|rfl|rfl|rfl|rfl|rfl|rfl|n
  .by_cases o:(eH ⟨c,rt,b,u,d⟩).ok=E;.rw[show bI ⟨⟨f,i,t⟩,j,x,⟨c,rt,b,u,d⟩,⟨s,v,w,e⟩,⟨y,k,m,a⟩⟩ 0=⟨⟨⟨f,i,t⟩,j,x,(eH ⟨c,rt,b,u,d⟩).r,⟨s,v,w,e⟩,⟨y,k,m,a⟩⟩,(eH ⟨c,rt,b,u,d⟩).g.1,E⟩by simp[bI,z,yZ,o]]at hK;exact gW
   .replace o:(eH ⟨c,rt,b,u,d⟩).ok=H:=by simpa using o
    rw[show bI ⟨⟨f,i,t⟩,j,x,⟨c,rt,b,u,d⟩,⟨s,v,w,e⟩,⟨y,k,m,a⟩⟩ 0=⟨⟨⟨f,i,t⟩,j,x,⟨c,rt,b,u,d⟩,⟨s,v,w,e⟩,⟨y,k,m,a⟩⟩,(eH ⟨c,rt,b,u,d⟩).g.1,E⟩by simp[bI,z,yZ,o]]at hK;exact gW
  .rw[show bI ⟨⟨f,i,t⟩,j,x,⟨c,rt,b,u,d⟩,⟨s,v,w,e⟩,⟨y,k,m,a⟩⟩ 1=⟨⟨⟨f,i,t⟩,j,x,⟨c,rt,b,u,d⟩,⟨s,v,w,e⟩,⟨y,k,m,a⟩⟩,j,E⟩by simp[bI,z]]at hK;exact gW
  .rw[show bI ⟨⟨f,i,t⟩,j,x,⟨c,rt,b,u,d⟩,⟨s,v,w,e⟩,⟨y,k,m,a⟩⟩ 2=⟨⟨⟨f,i,t⟩,j,x,⟨c,rt,b,u,d⟩,⟨s,v,w,e⟩,⟨y,k,m,a⟩⟩,cS ⟨⟨f,i,t⟩,j,x,⟨c,rt,b,u,d⟩,⟨s,v,w,e⟩,⟨y,k,m,a⟩⟩,E⟩by simp[bI,z]]at hK;exact gW
  .rw[show bI ⟨⟨f,i,t⟩,j,x,⟨c,rt,b,u,d⟩,⟨s,v,w,e⟩,⟨y,k,m,a⟩⟩ 3=⟨⟨⟨f,i,t⟩,j,x,⟨c,rt,b,u,d⟩,⟨s,v,w,e⟩,⟨y,k,m,a⟩⟩,Wq ⟨f,i,t⟩,E⟩by simp[bI,z]]at hK;exact gW
  .rw[show bI ⟨⟨f,i,t⟩,j,x,⟨c,rt,b,u,d⟩,⟨s,v,w,e⟩,⟨y,k,m,a⟩⟩ 4=⟨⟨⟨f,i,t⟩,j,x,⟨c,rt,b,u,d⟩,⟨s,v,w,e⟩,⟨y,k,m,a⟩⟩,x,E⟩by simp[bI,z]]at hK;exact gW
  .rw[show bI ⟨⟨f,i,t⟩,j,x,⟨c,rt,b,u,d⟩,⟨s,v,w,e⟩,⟨y,k,m,a⟩⟩ 5=⟨vP ⟨⟨f,i,t⟩,j,x,⟨c,rt,b,u,d⟩,⟨s,v,w,e⟩,⟨y,k,m,a⟩⟩,fV ⟨c,rt,b,u,d⟩+jU ⟨s,v,w,e⟩,E⟩by simp[bI,z,gu]]at hK;exact gW
  .rw[show bI ⟨⟨f,i,t⟩,j,x,⟨c,rt,b,u,d⟩,⟨s,v,w,e⟩,⟨y,k,m,a⟩⟩ 6=⟨UZ ⟨⟨f,i,t⟩,j,x,⟨c,rt,b,u,d⟩,⟨s,v,w,e⟩,⟨y,k,m,a⟩⟩,Ar ⟨y,k,m,a⟩,E⟩by simp[bI,z]]at hK;exact gW
  .rw[Qx n]at hK;repeat'(conv=>whnf);first|refine U0 ?_ ?_;exact gS|refine U1 ?_|apply gU;exact gA|refine gB ?_ ?_<;>intro q h<;>try exact bG
   all_goals first|(exfalso;have D:(0:Int)<=g/\g<=(6:Int):=Y3;omega)|(exact gF hK)
 .replace z:eL ⟨⟨f,i,t⟩,j,x,⟨c,rt,b,u,d⟩,⟨s,v,w,e⟩,⟨y,k,m,a⟩⟩=H:=by simpa using z
  rw[show bI ⟨⟨f,i,t⟩,j,x,⟨c,rt,b,u,d⟩,⟨s,v,w,e⟩,⟨y,k,m,a⟩⟩ g=⟨Ej,0,H⟩by simp[bI,z]]at hK;exact gW
def sM:CS:=cz [mQ,.inl .int] yK
def rY:bF aa.prog 142 sM:=bc RH
def OG(n:Int):Int:=kG (n+1) 999
def Xf{n:Int}(h:0<=n/\n<=999):0<=OG n/\OG n<=999:=by unfold OG kG;split<;>omega
def CQ(l:List (Int×Int)):Bool:=match l with|[]=>H|g::_=>decide (g.2=1\/g.2=2)
def Je(d:fe):fe:=⟨if gu d.p/4%2=1\/gu d.p/8%2=1 then yZ (vP d.p)else vP d.p,d.pM,d.out,if gu d.p/4%2=1\/gu d.p/8%2=1 then OG d.eX else d.eX,if gu d.p/2%2=1 then OG d.cX else d.cX⟩
def Jd(d:fe):fe:=⟨yZ d.p,if d.pM.length<32 then d.pM++[(eH d.p.rc).g.1]else d.pM,d.out,d.eX,if d.pM.length<32 then d.cX else OG d.cX⟩
def kI:zw->List Int->zw×List Int|s,[]=>(s,[])|s,b::r=>if(s.items.length:Int)<s.bS then kI ⟨s.bS,s.items++[b],s.shift,s.left⟩ r else(s,b::r)
def x7(d:fe):fe:=match d.out with|[]=>⟨⟨d.p.f,d.p.en-2,d.p.co,d.p.rc,d.p.sd,d.p.md⟩,d.pM,[],d.eX,d.cX⟩|b::r=>⟨⟨d.p.f,d.p.en,d.p.co,d.p.rc,(kI d.p.sd (b::r)).1,d.p.md⟩,d.pM,(kI d.p.sd (b::r)).2,d.eX,d.cX⟩
def Cm(d:fe):fe:=⟨UZ d.p,d.pM,d.out,d.eX,d.cX⟩
def qP(d:fe):fe:=if cS d.p=6 then Je d else if cS d.p=2 then x7 d else if cS d.p=0 then Cm d else Jd d
def dj:Nat->fe->fe×Int|0,d=>(d,0)|n+1,d=>if cS d.p=1 then(d,0)else((dj n (qP d)).1,(dj n (qP d)).2+1)
structure zh4 where
 x:fe
 n:Int
 ok:Bool
def te(d:fe):zh4:=if eR d then⟨(dj 40 d).1,(dj 40 d).2,E⟩else⟨FT,0,H⟩
def zh4.d(x:zh4):DV:=.t [.inr x.x.d,.inl (.v (.int .i64 x.n)),.inl (.v (.bool x.ok))]
def zfN(l:List (Int×Int)):(CQ l=E/\(qN l=5\/qN l=9))\/(CQ l=H/\(qN l=0\/qN l=1)):=by cases l with|nil=>simp[CQ,qN]|cons g r=>
 by_cases h:g.2=1;.simp[CQ,qN,h]
 .by_cases a:g.2=2<;>simp[CQ,qN,h,a]
variable{s:zw}
def zn6(h:lg s=E):(s.items=[]/\(jU s=96\/jU s=32))\/(s.items≠[]/\jU s=0):=by
 have⟨r,l,s,f⟩:=s;simp[jU,h,if_true];cases l;.grind
 .simp_all
def Qy(h:eL p=E):(gu p/2%2=1↔p.rc.cX=E)/\((gu p/4%2=1\/gu p/8%2=1)↔CQ p.rc.items=E)/\(2<=gu p%16↔(p.rc.cX=E\/CQ p.rc.items=E))/\(gu p/32%2=1↔p.sd.items=[]):=by have⟨_,_,_,a,c⟩:=du h;have d:=zfN p.rc.items;have s:=zn6 c;unfold gu fV;rw[a];simp[if_true];rcases d with⟨b,d|d⟩|⟨b,d|d⟩<;>rcases s with⟨i,s|s⟩|⟨i,s⟩<;>(cases l:p.rc.cX<;>simp[b,d,i,s])
def zny(h:eL p=E):cS p=(if p.en/4%2=1/\(p.rc.cX=E\/CQ p.rc.items=E)then 6 else if p.en%2=1/\p.rc.lh<=p.rc.items.length then 4 else if p.en%2=1/\(0<p.rc.items.length/\4<=p.rc.CP)then 12 else if p.en/2%2=1/\p.sd.items=[]then 2 else if p.en/8%2=1/\OK p.md=E then 0 else 1):=by
 have⟨g,i,d,f⟩:=Qy h;have⟨_,e,_,b,j⟩:=du h;have c:=tr h;have r:0<=mS p.rc/\mS p.rc<=2:=by
  unfold mS;repeat' split
  all_goals omega
 unfold cS OI;rw[h,if_pos rfl,if_pos ⟨c.1,c.2,r.1,r.2,e.1,e.2⟩];simp[d,f];have a:mS p.rc=1↔p.rc.lh<=p.rc.items.length:=by
  unfold mS;rw[b];simp only[if_true];split;.simp[*]
  .omega
 have k:mS p.rc=2↔¬p.rc.lh<=p.rc.items.length/\(0<p.rc.items.length/\4<=p.rc.CP):=by
  unfold mS;rw[b];simp only[if_true];split;.simp[*]
  .omega
 simp only[a,k];by_cases c1:p.en/4%2=1/\(p.rc.cX=E\/CQ p.rc.items=E);.simp_all
 .grind
inductive Irq(p:sZ):Prop where|line(e:cS p=6)(he:p.en/4%2=1)(h:p.rc.cX=E\/CQ p.rc.items=E)|data(e6:cS p≠6)(e2:cS p≠2)(e0:cS p≠0)(e1:cS p≠1)(e:cS p=4\/cS p=12)(h:p.rc.items≠[])(hx:¬(p.en/4%2=1/\(p.rc.cX=E\/CQ p.rc.items=E)))|empty(e:cS p=2)(he:p.en/2%2=1)(h:p.sd.items=[])|zd2(e:cS p=0)(h:OK p.md=E)|none(e:cS p=1)(h1:¬(p.en/4%2=1/\(p.rc.cX=E\/CQ p.rc.items=E)))(h2:p.en%2=1->(p.rc.items.length:Int)<p.rc.lh)
def zb0(h:eL p=E):Irq p:=by
 have e:=zny h;have⟨_,_,_,a,_⟩:=du h;have f:=nu a;by_cases c1:p.en/4%2=1/\(p.rc.cX=E\/CQ p.rc.items=E);.rw[if_pos c1]at e;exact .line e c1.1 c1.2
 rw[if_neg c1]at e;by_cases c2:p.en%2=1/\p.rc.lh<=p.rc.items.length
 .rw[if_pos c2]at e;refine .data Y0 Y0 Y0 Y0 Y0 ?_ c1;intro n;rw[n]at c2;simp at c2;omega
 rw[if_neg c2]at e;by_cases c3:p.en%2=1/\(0<p.rc.items.length/\4<=p.rc.CP)
 .rw[if_pos c3]at e;refine .data Y0 Y0 Y0 Y0 Y0 ?_ c1;intro n;rw[n]at c3;simp at c3
 rw[if_neg c3]at e;by_cases c4:p.en/2%2=1/\p.sd.items=[];.rw[if_pos c4]at e;exact .empty e c4.1 c4.2
 rw[if_neg c4]at e;by_cases c:p.en/8%2=1/\OK p.md=E;.rw[if_pos c]at e;exact .zd2 e c.2
 rw[if_neg c]at e;exact .none e c1 (λb=>by omega)
variable{r:z7}
def ER(h:fT r=E){g:Int×Int}{l:List (Int×Int)}(e:r.items=g::l):eH r=⟨⟨r.bS,r.lh,l,r.cX,0⟩,g,E⟩:=by simp[eH,h,e]
def zao(h:fT r=E){g:Int×Int}{l:List (Int×Int)}(e:r.items=g::l):fT ⟨r.bS,r.lh,l,r.cX,0⟩=E/\ed g.1=E:=by have⟨c,d,b,f,a⟩:=nu h;rw[e]at b a;simp only[Eb,fh,aj,aW,zE]at b a;exact⟨xd c d Y0 Y0 a.2,a.1.1⟩
def GW(h:fT r=E):fT ⟨r.bS,r.lh,r.items,H,r.CP⟩=E:=by have⟨a,b,c,d,e⟩:=nu h;exact xd a b c d e
def zc2(l:List Int):∀s:zw,(kI s l).1.items++(kI s l).2=s.items++l/\(kI s l).1.bS=s.bS/\(kI s l).1.shift=s.shift/\(kI s l).1.left=s.left/\(kI s l).2.length<=l.length:=by induction l with|nil=>intro s;simp[kI]|cons b r i=>
 intro s;unfold kI;split;.grind
 .simp
def w8{a b:List Int}:iw (a++b)=E↔iw a=E/\iw b=E:=by simp[iw]
def za3(l:List Int):∀s:zw,lg s=E->iw l=E->lg (kI s l).1=E/\iw (kI s l).2=E:=by induction l with|nil=>intro s h _;exact⟨h,rfl⟩|cons b r i=>
 intro s h a;unfold kI;split
 .rename_i j;have c:=pR a;refine i _ ?_ c.2;have⟨d,e,g⟩:=iU h;have f:jJ s.bS (s.items++[b])=E:=by simp only[jJ,aj,decide_eq_true_eq];refine⟨⟨⟨d.2.2,d.1⟩,by simp;omega⟩,w8.2 ⟨e,by simp[iw,c.1]⟩⟩
  simp[lg,aj]at h⊢;simp_all
 .simp_all
def za2(h:lg s=E)(e:s.items=[])(b:Int)(r:List Int):(kI s (b::r)).1.items≠[]:=by
 have⟨c,_⟩:=iU h;unfold kI;rw[if_pos Y8];have:∀(l:List Int)(s:zw),s.items≠[]->(kI s l).1.items≠[]:=by intro l;induction l with|nil=>intro s h;exact h|cons b r i=>
  intro s h;unfold kI;split;.simp_all
  .exact h
 simp_all
def smu(d:fe):Nat:=d.p.rc.items.length+(if d.p.rc.cX=E then 1 else 0)+(if d.p.en/2%2=1/\d.p.sd.items=[]then 1 else 0)+(if OK d.p.md=E then 1 else 0)
def zcd{d:fe}(h:eR d=E):smu d<=19:=by
 have:=(Om (dw h).1).1;unfold smu;repeat' split
 all_goals omega
structure zhz(d x:fe):Prop where
 v:eR x=E
 mu:smu x<smu d
 en4:x.p.en/4=d.p.en/4
 en1:x.p.en%2=d.p.en%2
 lh:x.p.rc.lh=d.p.rc.lh
 way:x.p.sd.items++x.out=d.p.sd.items++d.out
 shift:x.p.sd.shift=d.p.sd.shift
 pM:∃l,x.pM=d.pM++l
 f:x.p.f=d.p.f
def zgJ{d:fe}(h:eR d=E)(y:d.p.rc.cX=E\/CQ d.p.rc.items=E):zhz d (Je d):=by
 have⟨j,k,m,n,o⟩:=dw h;have⟨q,w,x,v,r⟩:=du j;have⟨t,a,_,_⟩:=Qy j;have s:0<=(if gu d.p/2%2=1 then OG d.cX else d.cX)/\(if gu d.p/2%2=1 then OG d.cX else d.cX)<=999:=by
  split;.exact Xf o
  .exact o
 unfold Je;by_cases b:CQ d.p.rc.items=E
 .rw[if_pos (a.2 b),if_pos (a.2 b)];cases u:d.p.rc.items with|nil=>rw[u]at b;simp[CQ]at b|cons g l=>
   have e:yZ (vP d.p)=⟨d.p.f,d.p.en,d.p.co,⟨d.p.rc.bS,d.p.rc.lh,l,H,0⟩,d.p.sd,d.p.md⟩:=by unfold yZ;rw[show(vP d.p).rc=⟨d.p.rc.bS,d.p.rc.lh,d.p.rc.items,H,d.p.rc.CP⟩from rfl,ER (GW v) u];rfl
   rw[e];exact⟨nf (hU q w x (zao (GW v) u).1 r) k m (Xf n) s,by simp[smu,u]<;>omega,rfl,rfl,rfl,rfl,rfl,⟨[],Y1⟩,rfl⟩
 .rw[if_neg (λc=>b (a.1 c)),if_neg (λc=>b (a.1 c))];have i:d.p.rc.cX=E:=by simp_all
  exact⟨nf (hU q w x (GW v) r) k m n s,by exact BW (BW (by simp[vP,i]) _) _,rfl,rfl,rfl,rfl,rfl,⟨[],Y1⟩,rfl⟩
def zgI{d:fe}(h:eR d=E)(x:d.p.rc.items≠[]):zhz d (Jd d):=by have⟨m,a,b,c,i⟩:=dw h;have⟨j,r,s,q,k⟩:=du m;cases n:d.p.rc.items with|nil=>cases x n|cons g l=>
 have e:yZ d.p=⟨d.p.f,d.p.en,d.p.co,⟨d.p.rc.bS,d.p.rc.lh,l,d.p.rc.cX,0⟩,d.p.sd,d.p.md⟩:=by unfold yZ;rw[ER q n];rfl
 have t:=zao q n;unfold Jd;rw[e,ER q n];by_cases o:d.pM.length<32
 .rw[if_pos o,if_pos o];exact⟨nf (hU j r s t.1 k) ⟨by simp;omega,w8.2 ⟨a.2,by simp[iw,t.2]⟩⟩ b c i,by simp[smu,n]<;>omega,rfl,rfl,rfl,rfl,rfl,⟨_,rfl⟩,rfl⟩
 .rw[if_neg o,if_neg o];exact⟨nf (hU j r s t.1 k) a b c (Xf i),by simp[smu,n]<;>omega,rfl,rfl,rfl,rfl,rfl,⟨[],Y1⟩,rfl⟩
def zde{d:fe}(h:eR d=E)(e:d.p.en/2%2=1)(x:d.p.sd.items=[]):zhz d (x7 d):=by have⟨l,f,a,g,i⟩:=dw h;have⟨j,s,m,o,c⟩:=du l;unfold x7;cases q:d.out with
 |nil=>
  refine⟨nf (hU j Y0 m o c) f (by simp[iw]) g i,?_,?_,?_,rfl,by simp[q],rfl,⟨[],Y1⟩,rfl⟩
  .unfold smu;dsimp only;rw[if_pos (show d.p.en/2%2=1/\d.p.sd.items=[]from⟨e,x⟩),if_neg (show¬((d.p.en-2)/2%2=1/\d.p.sd.items=[])by omega)];omega
  .grind
  .simp_all|cons b r=>rw[q]at a;have v:=za3 (b::r) d.p.sd c a.2;have k:=zc2 (b::r) d.p.sd;refine⟨nf (hU j s m o v.1) f ⟨bw k.2.2.2.2 a.1,v.2⟩ g i,?_,rfl,rfl,rfl,Y7,k.2.2.1,⟨[],Y1⟩,rfl⟩;unfold smu;dsimp only;rw[if_pos (show d.p.en/2%2=1/\d.p.sd.items=[]from⟨e,x⟩),if_neg (show¬(d.p.en/2%2=1/\(kI d.p.sd (b::r)).1.items=[])fromλn=>za2 c x b r n.2)];omega
def zdg{d:fe}(h:eR d=E)(x:OK d.p.md=E):zhz d (Cm d):=by have⟨a,b,c,e,f⟩:=dw h;have⟨g,j,k,l,i⟩:=du a;refine⟨nf (hU g j k l i) b c e f,?_,rfl,rfl,rfl,rfl,rfl,⟨[],by simp[Cm]⟩,rfl⟩;refine Nat.add_lt_add_left ?_ _;rw[if_pos x];simp[Cm,UZ,WZ,OK]
def JE{d:fe}(h:eR d=E)(n:cS d.p≠1):zhz d (qP d):=by unfold qP;cases zb0 (dw h).1 with|line e _ x=>rw[if_pos e];exact zgJ h x|data a b c _ _ x _=>rw[if_neg a,if_neg b,if_neg c];exact zgI h x|empty e f x=>rw[if_neg Y0,if_pos e];exact zde h f x|zd2 e x=>rw[if_neg Y0,if_neg Y0,if_pos e];exact zdg h x|none e _ _=>cases n e
def zpo(d:fe)(n:Nat):∀(m:Nat),eR d=E->smu d<n->smu d<m->dj n d=dj m d:=by induction n generalizing d with|zero=>intro m _ h;omega|succ n i=>intro m c a b;cases m with|zero=>omega|succ m=>
 unfold dj;split;.rfl
 .rename_i e;have k:=JE c e;have:=k.mu;rw[i (qP d) m k.v Y0 Y0]
def QK(n:Nat):∀d:fe,eR d=E->smu d<n->eR (dj n d).1=E/\cS (dj n d).1.p=1/\0<=(dj n d).2/\(dj n d).2<=smu d/\(dj n d).1.p.en/4=d.p.en/4/\(dj n d).1.p.en%2=d.p.en%2/\(dj n d).1.p.rc.lh=d.p.rc.lh/\(dj n d).1.p.sd.items++(dj n d).1.out=d.p.sd.items++d.out/\(dj n d).1.p.sd.shift=d.p.sd.shift/\(∃l,(dj n d).1.pM=d.pM++l)/\(dj n d).1.p.f=d.p.f:=by induction n with|zero=>intro d _ h;omega|succ n i=>
 intro d r h;unfold dj;split;.simp_all
 .rename_i s;have k:=JE r s;have q:=k.mu;have⟨t,u,y,z,w,c,e,g,x,⟨j,a⟩,b⟩:=i (qP d) k.v Y0;have⟨m,o⟩:=k.pM;exact⟨t,u,Y0,Y0,w.trans k.en4,c.trans k.en1,e.trans k.lh,g.trans k.way,x.trans k.shift,⟨m++j,Y7⟩,b.trans k.f⟩
def za0{d:fe}(h:cS d.p≠1):dj (n+1) d=((dj n (qP d)).1,(dj n (qP d)).2+1):=by rw[dj,if_neg h]
def za1{d:fe}(h:cS d.p=1):dj n d=(d,0):=by cases n with|zero=>rfl|succ n=>rw[dj,if_pos h]
def WM(x:fe)(a b c d:Nat):List LV:=[.v (.int .i64 x.p.f.bits),.v (.int .i64 x.p.f.par),.v (.int .i64 x.p.f.stop),.v (.int .i64 x.p.en),.v (.int .i64 x.p.co),.v (.int .i64 x.p.rc.bS),.v (.int .i64 x.p.rc.lh),.s a 0,.v (.bool x.p.rc.cX),.v (.int .i64 x.p.rc.CP),.v (.int .i64 x.p.sd.bS),.s b 0,.v (.int .i64 x.p.sd.shift),.v (.int .i64 x.p.sd.left),.v (.bool x.p.md.c),.v (.bool x.p.md.h),.v (.bool x.p.md.cc),.v (.bool x.p.md.hc),.s c 0,.s d 0,.v (.int .i64 x.eX),.v (.int .i64 x.cX)]
def zis(h:eL p=E):bI p 5=⟨vP p,gu p,E⟩:=by simp[bI,h]
def zoX(h:eL p=E):bI p 0=⟨yZ p,(eH p.rc).g.1,E⟩:=by simp[bI,h]
def zu3(h:eL p=E):bI p 6=⟨UZ p,Ar p.md,E⟩:=by simp[bI,h]
def zdk(h:eL p=E):eL (vP p)=E:=by have⟨a,c,d,e,b⟩:=du h;exact hU a c d (GW e) b
def zcc(p c:sZ)(x:fe)(a b:Bool):fe:=⟨cond b c p,x.pM,x.out,cond b (OG x.eX) x.eX,cond a (OG x.cX) x.cX⟩
variable{x:fe}
def zgB(h:eL x.p=E){e b:Bool}(c:decide ((bI x.p 5).n/2%2=1)=e)(a:decide ((bI x.p 5).n/4%2=1\/(bI x.p 5).n/8%2=1)=b):zcc (bI x.p 5).p (bI (bI x.p 5).p 0).p x e b=Je x:=by rw[zis h]at c a⊢;rw[zoX (zdk h)];unfold zcc Je;subst c a;by_cases c2:gu x.p/2%2=1<;>by_cases d:gu x.p/4%2=1\/gu x.p/8%2=1<;>simp[c2,d]
def zb9(q:O5)(x:fe)(b:Bool):fe:=⟨q.p,cond b (x.pM++[q.n]) x.pM,x.out,x.eX,cond b x.cX (OG x.cX)⟩
def zgA(h:eL x.p=E){b:Bool}(a:decide (x.pM.length<32)=b):zb9 (bI x.p 0) x b=Jd x:=by rw[zoX h];unfold zb9 Jd;subst a;by_cases c:x.pM.length<32<;>simp[c]
structure Wc where
 x:fe
 n:Nat
def Wc.ok(s:Wc)(d:fe):Prop:=eR s.x=E/\smu s.x+s.n<=19/\dj 40 d=((dj (40-s.n) s.x).1,(dj (40-s.n) s.x).2+s.n)
def zac{d:fe}(h:eR d=E):Wc.ok ⟨d,0⟩ d:=⟨h,by have:=zcd h;simp;omega,Y1⟩
def Gl{y d:fe}(h:Wc.ok ⟨x,n⟩ d)(f:cS x.p≠1)(e:y=qP x):Wc.ok ⟨y,n+1⟩ d:=by subst e;have⟨a,c,b⟩:=h;have k:=JE a f;have m:=k.mu;dsimp only at a c b m;refine⟨k.v,Y8,?_⟩;rw[b,show 40-n=(40-(n+1))+1 by omega,za0 f];rw[show((n+1:Nat):Int)=1+(n:Int)by omega,Int.add_assoc]
def zeJ{d:fe}(h:Wc.ok ⟨x,n⟩ d)(e:cS x.p=1):dj 40 d=(x,(n:Int)):=by have⟨b,c,a⟩:=h;rw[a,za1 e];simp
def zdb(h:cS x.p=6):qP x=Je x:=by rw[qP,if_pos h]
def Mt(h:cS x.p=2):qP x=x7 x:=by rw[qP,if_neg Y0,if_pos h]
def za6(h:cS x.p=0):qP x=Cm x:=by rw[qP,if_neg Y0,if_neg Y0,if_pos h]
def zda(h:cS x.p≠6)(a:cS x.p≠2)(b:cS x.p≠0):qP x=Jd x:=by rw[qP,if_neg h,if_neg a,if_neg b]
def ze1(q:O5)(x:fe):fe:=⟨q.p,x.pM,x.out,x.eX,x.cX⟩
def zc0(h:eL x.p=E):ze1 (bI x.p 6) x=Cm x:=by rw[zu3 h];rfl
def zab{d:fe}(s:Wc.ok ⟨x,n⟩ d)(e:cS x.p=0):Wc.ok ⟨ze1 (bI x.p 6) x,n+1⟩ d:=Gl s Y0 ((zc0 (dw s.1).1).trans (za6 e).symm)
def zeI{d:fe}(s:Wc.ok ⟨x,n⟩ d)(e:cS x.p=6){b a c:Bool}(h:decide ((bI x.p 5).n/2%2=1)=b)(f:decide ((bI x.p 5).n/4%2=1)=a)(g:decide ((bI x.p 5).n/8%2=1)=c):Wc.ok ⟨zcc (bI x.p 5).p (bI (bI x.p 5).p 0).p x b (a||c),n+1⟩ d:=Gl s Y0 ((zgB (dw s.1).1 h Y7).trans (zdb e).symm)
def Oj{d:fe}(s:Wc.ok ⟨x,n⟩ d)(h:cS x.p≠6)(a:cS x.p≠2)(c:cS x.p≠0)(e:cS x.p≠1){b:Bool}(f:decide (x.pM.length<32)=b):Wc.ok ⟨zb9 (bI x.p 0) x b,n+1⟩ d:=Gl s e ((zgA (dw s.1).1 f).trans (zda h a c).symm)
def zeV(x:fe)(e:Int):fe:=⟨⟨x.p.f,e,x.p.co,x.p.rc,x.p.sd,x.p.md⟩,x.pM,[],x.eX,x.cX⟩
def VG{d:fe}(s:Wc.ok ⟨x,n⟩ d)(e:cS x.p=2)(o:x.out=[]){en:Int}(h:en=x.p.en-2):Wc.ok ⟨zeV x en,n+1⟩ d:=Gl s Y0 ((show zeV x en=x7 x by rw[x7,o,h];rfl).trans (Mt e).symm)
def Gs(x:fe)(s:zw)(o:List Int):fe:=⟨⟨x.p.f,x.p.en,x.p.co,x.p.rc,s,x.p.md⟩,x.pM,o,x.eX,x.cX⟩
def Cy{d:fe}(c:Wc.ok ⟨x,n⟩ d)(e:cS x.p=2)(f:x.out≠[]){o:List Int}(h:kI x.p.sd x.out=(s,o)):Wc.ok ⟨Gs x s o,n+1⟩ d:=by refine Gl c Y0 (Eq.trans ?_ (Mt e).symm);unfold x7;cases a:x.out with|nil=>cases f a|cons b r=>rw[a]at h;dsimp only;rw[h];rfl
def zfq(d:zw)(l:List Int)(s:zw×List Int):Prop:=kI s.1 s.2=kI d l/\lg s.1=E/\iw s.2=E/\s.2.length<=32
variable{l:List Int}{c:Int}
def PI{d:zw}{q:List Int}(h:zfq d l (s,c::q))(r:(s.items.length:Int)<s.bS):zfq d l (⟨s.bS,s.items++[c],s.shift,s.left⟩,q):=by
 have⟨e,a,f,g⟩:=h;have b:=pR f;refine⟨?_,?_,b.2,Y8⟩;.rw[<-e];rw[kI.eq_2,if_pos r]
 .have⟨p,j,k⟩:=iU a;have i:jJ s.bS (s.items++[c])=E:=by simp only[jJ,aj,decide_eq_true_eq];refine⟨⟨⟨p.2.2,p.1⟩,by simp;omega⟩,w8.2 ⟨j,by simp[iw,b.1]⟩⟩
  simp[lg,aj]at a⊢;simp_all
def VJ{d:zw}{r:List Int}(h:lg d=E)(i:d.items=[])(l:iw (b::r)=E)(n:(b::r).length<=32):zfq d (b::r) (⟨d.bS,d.items++[b],d.shift,d.left⟩,r):=PI ⟨rfl,h,l,n⟩ (by have:=(iU h).1;rw[i];simp;omega)
def On{d:zw}{q:List Int}(h:zfq d l (s,q))(a:q=[]\/¬(s.items.length:Int)<s.bS):kI d l=(s,q):=by rw[<-h.1];cases q with|nil=>rfl|cons c q=>
 rw[kI.eq_2,if_neg];rcases a with a|a;.cases a
 .exact a
def zo3:∀n:Fin 128,(!decide (aD.wrap (aS aD.bits (n.val:Int)&&&aS aD.bits 2).toNat=0))=decide ((n.val:Int)/2%2=1)/\(!decide (aD.wrap (aS aD.bits (n.val:Int)&&&aS aD.bits 12).toNat=0))=(decide ((n.val:Int)/4%2=1)||decide ((n.val:Int)/8%2=1)):=by decide+kernel
def zuz:∀n:Fin 16,(n.val:Int)/2%2=1->aD.wrap (aS aD.bits (n.val:Int)&&&~~~(aS aD.bits 2)).toNat=(n.val:Int)-2:=by decide+kernel
def zu7{n:Int}(h:0<=n/\n<=127){b:Bool}(a:decide (n/2%2=1)=b):(!decide (aD.wrap (aS aD.bits n&&&aS aD.bits 2).toNat=0))=b:=by obtain⟨q,rfl⟩:∃q:Fin 128,(q.val:Int)=n:=⟨⟨n.toNat,Y0⟩,by simp;omega⟩;rw[<-a];exact(zo3 q).1
def zrY{n:Int}(h:0<=n/\n<=127){b c:Bool}(a:decide (n/4%2=1)=b)(d:decide (n/8%2=1)=c):(!decide (aD.wrap (aS aD.bits n&&&aS aD.bits 12).toNat=0))=(b||c):=by obtain⟨q,rfl⟩:∃q:Fin 128,(q.val:Int)=n:=⟨⟨n.toNat,Y0⟩,by simp;omega⟩;rw[<-a,<-d];exact(zo3 q).2
def zuy{n:Int}(h:0<=n/\n<=15)(b:n/2%2=1):aD.wrap (aS aD.bits n&&&~~~(aS aD.bits 2)).toNat=n-2:=by obtain⟨q,rfl⟩:∃q:Fin 16,(q.val:Int)=n:=⟨⟨n.toNat,Y0⟩,by simp;omega⟩;exact zuz q b
def WO(x:fe)(a b c d i m:Nat):List LV:=[.v (.int .i64 x.p.f.bits),.v (.int .i64 x.p.f.par),.v (.int .i64 x.p.f.stop),.v (.int .i64 x.p.en),.v (.int .i64 x.p.co),.v (.int .i64 x.p.rc.bS),.v (.int .i64 x.p.rc.lh),.s a 0,.v (.bool x.p.rc.cX),.v (.int .i64 x.p.rc.CP),.v (.int .i64 x.p.sd.bS),.s b 0,.v (.int .i64 x.p.sd.shift),.v (.int .i64 x.p.sd.left),.v (.bool x.p.md.c),.v (.bool x.p.md.h),.v (.bool x.p.md.cc),.v (.bool x.p.md.hc),.s c 0,.w d 0 1 i m,.v (.int .i64 x.eX),.v (.int .i64 x.cX)]
def zxR(d:fe)(s:Wc×Nat):Prop:=s.1.ok d/\s.2<=d.out.length/\s.1.x.out=d.out.drop s.2
def zjN{i:Nat}:(l.drop i).take (l.length-i)=l.drop i:=aM Y1
def Vo{i:Nat}(h:i<l.length):l.drop i=l.getD i 0::l.drop (i+1):=by rw[List.drop_eq_getElem_cons h];simp[bA,h]
def DT:bK:=[]
def Ko:aR aa.prog DT:=an trivial
def AX:CS:=FQ fQ DT eT f197
def BB:bF aa.prog 197 AX:=eP aJ au Ko (Rn.fM func197)
def vy:bK:=[(217,G8)]
def B2:aR aa.prog vy:=an ⟨MK,aA⟩
def nz:CS:=FQ fQ vy eT f196
def nL:bF aa.prog 196 nz:=eP aJ au B2 (Rn.fM func196)
def pt:bK:=[(196,nz),(197,AX)]
def uY:aR aa.prog pt:=an ⟨nL,BB,aA⟩
def rK:CS:=FQ fQ pt eT f161
def xN:bF aa.prog 161 rK:=eP aJ au uY (Rn.fM func161)
def ps:bK:=[(196,nz),(197,AX)]
def uX:aR aa.prog ps:=an ⟨nL,BB,aA⟩
def rJ:CS:=FQ fQ ps eT f162
def xM:bF aa.prog 162 rJ:=eP aJ au uX (Rn.fM func162)
def oq:bK:=[(198,DF)]
def uM:aR aa.prog oq:=an ⟨JM,aA⟩
def yV:Nat->Tr:=λn=>match n with|3=>iu [0,0,1,0,2,0,3,0,4,0,5,0,6,0,7,0,8,0,9,0] (.iY 10 1 (iu [11,0,12,0,13,0,14,1,15,1,16,2] .nil) 14 1 (iu [10,1,11,1,12,0,13,0,15,1,16,2] .nil))|_=>.nil
def pK:CS:=FQ fQ oq yV f163
def wL:bF aa.prog 163 pK:=eP aJ au uM (Rn.fM func163)
def ot:bK:=[(196,nz)]
def uN:aR aa.prog ot:=an ⟨nL,aA⟩
def pL:CS:=FQ fQ ot eT f164
def wM:bF aa.prog 164 pL:=eP aJ au uN (Rn.fM func164)
def H6:bK:=[(63,kO),(81,ma),(165,AW),(161,rK),(162,rJ),(163,pK),(164,pL)]
def B0:aR aa.prog H6:=an ⟨kD,lG,Bx,xN,xM,wL,wM,aA⟩
def zt:DA [lN]->(DV->Prop)->Prop:=λ⟨⟨f,b,l,p,n,r,rt,c,o,e,s,t,u,g,v,h,m,a,q,i,j,k,_⟩,_⟩K=>K (te ⟨⟨⟨f,b,l⟩,p,n,⟨r,rt,c,o,e⟩,⟨s,t,u,g⟩,⟨v,h,m,a⟩⟩,q,i,j,k⟩).d
def HY:fi aa.prog 128 [lN] zt:=by refine aV (TR:=eT) aJ au B0 (Rn.fM func128) rfl ?_;dsimp only[DA,HL,Sh.T];rintro⟨⟨G,Q0,f,I,J,L,M,t,N,O,P,u,Q,R,S,Q1,c,g,w,q,Q2,W,_⟩,_⟩K hK⟨⟨-,-,-,-,-,-,-,h1,-,-,-,h2,-,-,-,-,-,-,h3,h4,-⟩,-⟩;dsimp only[zt]at hK;replace h1:=gl t h1;replace h2:=gl u h2;replace h3:=gl w h3;replace h4:=gl q h4;cases Q3:eR ⟨⟨⟨G,Q0,f⟩,I,J,⟨L,M,t,N,O⟩,⟨P,u,Q,R⟩,⟨S,Q1,c,g⟩⟩,w,q,Q2,W⟩with|false=>rw[show te ⟨⟨⟨G,Q0,f⟩,I,J,⟨L,M,t,N,O⟩,⟨P,u,Q,R⟩,⟨S,Q1,c,g⟩⟩,w,q,Q2,W⟩=⟨FT,0,H⟩by simp[te,Q3]]at hK;exact gW|true=>
 rw[show te ⟨⟨⟨G,Q0,f⟩,I,J,⟨L,M,t,N,O⟩,⟨P,u,Q,R⟩,⟨S,Q1,c,g⟩⟩,w,q,Q2,W⟩=⟨(dj 40 ⟨⟨⟨G,Q0,f⟩,I,J,⟨L,M,t,N,O⟩,⟨P,u,Q,R⟩,⟨S,Q1,c,g⟩⟩,w,q,Q2,W⟩).1,(dj 40 ⟨⟨⟨G,Q0,f⟩,I,J,⟨L,M,t,N,O⟩,⟨P,u,Q,R⟩,⟨S,Q1,c,g⟩⟩,w,q,Q2,W⟩).2,E⟩by simp[te,Q3]]at hK;repeat'(conv=>whnf);first|refine U0 ?_ ?_;exact gS|(refine ae _ (aB (λ_ h=>h) (aB rfl ?_)))|refine U1 ?_|apply gU;exact gA|refine gB ?_ ?_<;>intro y h<;>try exact bG
 refine dt.mI {s:Wc×Nat//zxR ⟨⟨⟨G,Q0,f⟩,I,J,⟨L,M,t,N,O⟩,⟨P,u,Q,R⟩,⟨S,Q1,c,g⟩⟩,w,q,Q2,W⟩ s} (λs=>[(15,.j),(17,.j),(7,.l (.v (.int .i64 (cS s.1.1.x.p)))),(6,.l (.v (.int .i64 s.1.1.n)))]) (λs=>[(0,.b (WO s.1.1.x 3 4 5 6 s.1.2 (q.length-s.1.2)) 45),(3,.r 0 80 (.bC s.1.1.x.p.rc.items)),(4,.r 0 3 (.bn s.1.1.x.p.sd.items)),(5,.r 0 3 (.bn s.1.1.x.pM))]) (λs=>40-s.1.1.n) ⟨(⟨⟨⟨⟨G,Q0,f⟩,I,J,⟨L,M,t,N,O⟩,⟨P,u,Q,R⟩,⟨S,Q1,c,g⟩⟩,w,q,Q2,W⟩,0⟩,0),zac Q3,a7 _,rfl⟩ [0,1,2,3,4,5,6] ?_ ?_;.repeat' first|refine U0 ?_ ?_;exact gV|exact aA
 clear h1 h2 h3 h4;rintro⟨⟨⟨⟨⟨⟨B,Q4,fst⟩,k,pc,⟨D,rt,z,ro,Q5⟩,⟨o,sl,ss,A⟩,⟨mc,F,m,a⟩⟩,qi,qo,cw,cl⟩,n⟩,i⟩,hs,hi,ho⟩;dsimp only at hi ho;dsimp only[WO];have hv:=hs.1;have hm:=hs.2.1;obtain⟨hp,hqi,X,hcw,hcl⟩:=dw hv;have hZ:=(dw Q3).2.2.1.1;have hl:=Om hp;dsimp only at hp hqi X hcw hcl hl hm hZ;have hn:n<=19:=Y0;cases zb0 hp with
 |none e _ _=>
  have d1:(!decide (cS ⟨⟨B,Q4,fst⟩,k,pc,⟨D,rt,z,ro,Q5⟩,⟨o,sl,ss,A⟩,⟨mc,F,m,a⟩⟩=1))=H:=by simp[e]
  rw[zeJ hs e]at hK;have hd:=zjN (l:=q) (i:=i);repeat'(conv=>whnf);first|refine U0 ?_ ?_;exact gS|(refine ae _ (aB (λ_ h=>h) (aB rfl ?_)))|refine U1 ?_|apply gU;exact gA|refine gB ?_ ?_<;>intro y h<;>try exact bG
  (refine gI hK ?_;repeat' first|exact gR|refine U0 ?_ ?_);all_goals(first|exact rfl|(simp[hd,ho];done))|zd2 e hx=>
  have d1:(!decide (cS ⟨⟨B,Q4,fst⟩,k,pc,⟨D,rt,z,ro,Q5⟩,⟨o,sl,ss,A⟩,⟨mc,F,m,a⟩⟩=1))=E:=by simp[e]
  have hl6:=nV ⟨⟨B,Q4,fst⟩,k,pc,⟨D,rt,z,ro,Q5⟩,⟨o,sl,ss,A⟩,⟨mc,F,m,a⟩⟩ 6;dsimp only at hl6;repeat'(conv=>whnf);first|refine U0 ?_ ?_;exact gS|(refine ae _ (aB (λ_ h=>h) (aB rfl ?_)))|refine U1 ?_|apply gU;exact gA|refine gB ?_ ?_<;>intro y h<;>try exact bG
  (refine ae _ (ae _ (aB (λ_ h=>h) (aB (by rw[e];exact rfl) (aB rfl ?_)))));repeat'(conv=>whnf);first|refine U0 ?_ ?_;exact gS|(refine ae _ (aB (λ_ h=>h) (aB rfl ?_)))|refine U1 ?_|apply gU;exact gA|refine gB ?_ ?_<;>intro y h<;>try exact bG
  have key:=zab hs e;dsimp only at key;(refine ae ⟨(⟨_,_⟩,i),key,hi,ho⟩ (ae [0,1,2,7,8,5,6] (aB ?_ ?_)))
  .show 40-(n+1)<40-n;omega
  .repeat' first|refine U0 ?_ ?_;exact gV|exact aA
 |line e he hx=>
  have d1:(!decide (cS ⟨⟨B,Q4,fst⟩,k,pc,⟨D,rt,z,ro,Q5⟩,⟨o,sl,ss,A⟩,⟨mc,F,m,a⟩⟩=1))=E:=by simp[e]
  have hl5:=nV ⟨⟨B,Q4,fst⟩,k,pc,⟨D,rt,z,ro,Q5⟩,⟨o,sl,ss,A⟩,⟨mc,F,m,a⟩⟩ 5;have zqE:=nV (bI ⟨⟨B,Q4,fst⟩,k,pc,⟨D,rt,z,ro,Q5⟩,⟨o,sl,ss,A⟩,⟨mc,F,m,a⟩⟩ 5).p 0;have hn5:0<=(bI ⟨⟨B,Q4,fst⟩,k,pc,⟨D,rt,z,ro,Q5⟩,⟨o,sl,ss,A⟩,⟨mc,F,m,a⟩⟩ 5).n/\(bI ⟨⟨B,Q4,fst⟩,k,pc,⟨D,rt,z,ro,Q5⟩,⟨o,sl,ss,A⟩,⟨mc,F,m,a⟩⟩ 5).n<=127:=by rw[zis hp];exact tr hp
  dsimp only at hl5 zqE;repeat'(conv=>whnf);first|refine U0 ?_ ?_;exact gS|(refine ae _ (aB (λ_ h=>h) (aB rfl ?_)))|refine U1 ?_|apply gU;exact gA|refine gB ?_ ?_<;>intro y h<;>try exact bG
  (refine ae _ (ae _ (aB (λ_ h=>h) (aB (by rw[e];exact rfl) (aB rfl ?_)))));cases hb2:decide ((bI ⟨⟨B,Q4,fst⟩,k,pc,⟨D,rt,z,ro,Q5⟩,⟨o,sl,ss,A⟩,⟨mc,F,m,a⟩⟩ 5).n/2%2=1)<;>cases hb4:decide ((bI ⟨⟨B,Q4,fst⟩,k,pc,⟨D,rt,z,ro,Q5⟩,⟨o,sl,ss,A⟩,⟨mc,F,m,a⟩⟩ 5).n/4%2=1)<;>cases hb8:decide ((bI ⟨⟨B,Q4,fst⟩,k,pc,⟨D,rt,z,ro,Q5⟩,⟨o,sl,ss,A⟩,⟨mc,F,m,a⟩⟩ 5).n/8%2=1);all_goals
   have key:=zeI hs e hb2 hb4 hb8;have g2:=zu7 hn5 hb2;have g12:=zrY hn5 hb4 hb8;simp only[Bool.or_true,Bool.or_false,G4,vS,Bool.or_self]at key g12;repeat'(conv=>whnf);first|refine U0 ?_ ?_;exact gS|(refine ae _ (aB (λ_ h=>h) (aB rfl ?_)))|refine U1 ?_|apply gU;exact gA|refine gB ?_ ?_<;>intro y h<;>try exact bG
   first |((refine ae ⟨(⟨_,_⟩,i),key,hi,ho⟩ (ae [0,1,2,7,8,5,6] (aB ?_ ?_)));(focus(show 40-(n+1)<40-n;omega));(repeat' first|refine U0 ?_ ?_;exact gV|exact aA);done)|((refine ae ⟨(⟨_,_⟩,i),key,hi,ho⟩ (ae [0,1,2,10,11,5,6] (aB ?_ ?_)));(focus(show 40-(n+1)<40-n;omega));(repeat' first|refine U0 ?_ ?_;exact gV|exact aA);done)
 |data e6 e2 e0 e1 e hx _=>
  have d1:(!decide (cS ⟨⟨B,Q4,fst⟩,k,pc,⟨D,rt,z,ro,Q5⟩,⟨o,sl,ss,A⟩,⟨mc,F,m,a⟩⟩=1))=E:=by simp[e1]
  have hl0:=nV ⟨⟨B,Q4,fst⟩,k,pc,⟨D,rt,z,ro,Q5⟩,⟨o,sl,ss,A⟩,⟨mc,F,m,a⟩⟩ 0;dsimp only at hl0;repeat'(conv=>whnf);first|refine U0 ?_ ?_;exact gS|(refine ae _ (aB (λ_ h=>h) (aB rfl ?_)))|refine U1 ?_|apply gU;exact gA|refine gB ?_ ?_<;>intro y h<;>try exact bG
  rcases e with e|e;all_goals
   (refine ae _ (ae _ (aB (λ_ h=>h) (aB (by rw[e];exact rfl) (aB rfl ?_)))));by_cases hq:qi.length<32
   .have key:=Oj hs e6 e2 e0 e1 (b:=E) (by simpa using hq);dsimp only at key;repeat'(conv=>whnf);first|refine U0 ?_ ?_;exact gS|(refine ae _ (aB (λ_ h=>h) (aB rfl ?_)))|refine U1 ?_|apply gU;exact gA|refine gB ?_ ?_<;>intro y h<;>try exact bG
    (refine ae ⟨(⟨_,_⟩,i),key,hi,ho⟩ (ae [0,1,2,7,8,5,6] (aB ?_ ?_)))
    .show 40-(n+1)<40-n;omega
    .repeat' first|refine U0 ?_ ?_;exact gV|exact aA
   .have key:=Oj hs e6 e2 e0 e1 (b:=H) (by simpa using hq);dsimp only at key;repeat'(conv=>whnf);first|refine U0 ?_ ?_;exact gS|(refine ae _ (aB (λ_ h=>h) (aB rfl ?_)))|refine U1 ?_|apply gU;exact gA|refine gB ?_ ?_<;>intro y h<;>try exact bG
    (refine ae ⟨(⟨_,_⟩,i),key,hi,ho⟩ (ae [0,1,2,7,8,5,6] (aB ?_ ?_)))
    .show 40-(n+1)<40-n;omega
    .repeat' first|refine U0 ?_ ?_;exact gV|exact aA
 |empty e he hx=>
  have d1:(!decide (cS ⟨⟨B,Q4,fst⟩,k,pc,⟨D,rt,z,ro,Q5⟩,⟨o,sl,ss,A⟩,⟨mc,F,m,a⟩⟩=1))=E:=by simp[e]
  have hpe:0<=k/\k<=15:=(du hp).2.1;repeat'(conv=>whnf);first|refine U0 ?_ ?_;exact gS|(refine ae _ (aB (λ_ h=>h) (aB rfl ?_)))|refine U1 ?_|apply gU;exact gA|refine gB ?_ ?_<;>intro y h<;>try exact bG
  (refine ae _ (ae _ (aB (λ_ h=>h) (aB (by rw[e];exact rfl) (aB rfl ?_)))));by_cases hi2:i<q.length
  .have hw:=Vo hi2;rw[hw]at ho;have hp5:=(du hp).2.2.2.2;rw[ho]at X;have y:ed (q.getD i 0)=E:=(pR X.2).1;have hc:(ed (q.getD (i+aC 0) 0)&&decide ((sl.length:Int)<o))=E:=by have h1:=(iU hp5).1.2.2;replace hx:sl=[]:=hx;subst hx;dsimp only at h1;simp;exact⟨y,Y0⟩
   repeat'(conv=>whnf);first|refine U0 ?_ ?_;exact gS|(refine ae _ (aB (λ_ h=>h) (aB rfl ?_)))|refine U1 ?_|apply gU;exact gA|refine gB ?_ ?_<;>intro y h<;>try exact bG
   refine dt.un 1 ?_;repeat'(conv=>whnf);first|refine U0 ?_ ?_;exact gS|refine dS.mk ?_ ?_;exact YT|refine U1 ?_|apply gU;exact gA|refine gB ?_ ?_<;>intro y h<;>try exact bG
   refine Lc.mI {s:zw×Nat//zfq ⟨o,sl,ss,A⟩ qo (s.1,q.drop s.2)/\s.2<=q.length} (λ_=>[]) (λs=>[(0,.b (WO (Gs ⟨⟨⟨B,Q4,fst⟩,k,pc,⟨D,rt,z,ro,Q5⟩,⟨o,sl,ss,A⟩,⟨mc,F,m,a⟩⟩,qi,qo,cw,cl⟩ s.1.1 qo) 8 9 5 6 s.1.2 (q.length-s.1.2)) 45),(7,.d),(8,.r 0 80 (.bC z)),(9,.r 0 3 (.bn s.1.1.items))]) (λs=>q.length-s.1.2) ⟨(⟨o,sl++[q.getD i 0],ss,A⟩,i+1),by rw[ho];exact VJ hp5 hx X.2 X.1,hi2⟩ [0,1,2,3,4,5,6,7,8,9] ?_ ?_;.repeat'(first|(refine U0 ?_ ?_;focus(first|with_reducible exact rfl|exactλ_ h=>h|exact⟨⟨rfl,rfl,rfl,rfl⟩,aA⟩|(simp only[EL.len];done)|(simp[EL.len];done)|exact⟨rfl,aA⟩|exact⟨⟨rfl,rfl⟩,rfl,rfl⟩|exact⟨rfl,rfl,aA⟩|exact rfl|kernel_rfl))|exact aA)
   rintro⟨⟨⟨Z,sl',ss',sf'⟩,j⟩,hI,hj⟩;dsimp only[WO,Gs];have hI2:=(iU hI.2.1);have hI3:=hI.2.2;dsimp only at hI2 hI3 hj;obtain⟨p1,p2,p3,p4,p5⟩:=du hp;have hpi:eL ⟨⟨B,Q4,fst⟩,k,pc,⟨D,rt,z,ro,Q5⟩,⟨Z,sl',ss',sf'⟩,⟨mc,F,m,a⟩⟩=E:=hU p1 p2 p3 p4 hI.2.1;clear p1 p2 p3 p4 p5;by_cases hj2:j<q.length
   .have hw2:=Vo hj2;rw[hw2]at hI hI3;have hqc:ed (q.getD j 0)=E:=(pR hI3.1).1;by_cases hr:(sl'.length:Int)<Z
    .have hc2:(ed (q.getD (j+aC 0) 0)&&decide ((sl'.length:Int)<Z))=E:=by simp;exact⟨hqc,hr⟩
     repeat'(conv=>whnf);first|refine U0 ?_ ?_;exact gS|refine dS.mk ?_ ?_;exact YT|refine U1 ?_|apply gU;exact gA|refine gB ?_ ?_<;>intro y h<;>try exact bG
     (refine ae ⟨(_,j+1),PI hI hr,hj2⟩ (ae [0,1,2,3,4,5,6,7,11,12] (aB ?_ ?_)))
     .show q.length-(j+1)<q.length-j;omega
     .repeat'(first|(refine U0 ?_ ?_;focus(first|with_reducible exact rfl|exactλ_ h=>h|exact⟨⟨rfl,rfl,rfl,rfl⟩,aA⟩|(simp only[EL.len];done)|(simp[EL.len];done)|exact⟨rfl,aA⟩|exact⟨⟨rfl,rfl⟩,rfl,rfl⟩|exact⟨rfl,rfl,aA⟩|exact rfl|kernel_rfl))|exact aA)
    .have hc2:(ed (q.getD (j+aC 0) 0)&&decide ((sl'.length:Int)<Z))=H:=by simp[hr]
     have key:=Cy hs e (by rw[ho];simp) (On hI (.inr hr));rw[<-hw2]at key;repeat'(conv=>whnf);first|refine U0 ?_ ?_;exact gS|refine dS.mk ?_ ?_;exact YT|refine U1 ?_|apply gU;exact gA|refine gB ?_ ?_<;>intro y h<;>try exact bG
     (refine ae ⟨(⟨_,_⟩,j),key,hj,rfl⟩ (ae [0,1,2,8,9,5,6] (aB ?_ ?_)));.show 40-(n+1)<40-n;omega
     .repeat' first|refine U0 ?_ ?_;exact gV|exact aA
   .have hj3:q.drop j=[]:=cK Y0;have key:=Cy hs e (by rw[ho];simp) (On hI (.inl hj3));repeat'(conv=>whnf);first|refine U0 ?_ ?_;exact gS|refine dS.mk ?_ ?_;exact YT|refine U1 ?_|apply gU;exact gA|refine gB ?_ ?_<;>intro y h<;>try exact bG
    (refine ae ⟨(⟨_,_⟩,j),key,hj,rfl⟩ (ae [0,1,2,8,9,5,6] (aB ?_ ?_)));.show 40-(n+1)<40-n;omega
    .repeat' first|refine U0 ?_ ?_;exact gV|exact aA
  .have ho2:qo=[]:=by rw[ho];exact cK Y0
   have key:=VG hs e ho2 (zuy hpe he);have hq:([]:List Int)=q.drop i:=by rw[<-ho,ho2]
   repeat'(conv=>whnf);first|refine U0 ?_ ?_;exact gS|(refine ae _ (aB (λ_ h=>h) (aB rfl ?_)))|refine U1 ?_|apply gU;exact gA|refine gB ?_ ?_<;>intro y h<;>try exact bG
   (refine ae ⟨(⟨_,_⟩,i),key,hi,hq⟩ (ae [0,1,2,3,4,5,6] (aB ?_ ?_)))
   .show 40-(n+1)<40-n;omega
   .repeat' first|refine U0 ?_ ?_;exact gV|exact aA
def Sa:bK:=[(81,ma)]
def Im:aR aa.prog Sa:=an ⟨lG,aA⟩
def UA:Nat->Tr:=λn=>match n with|1=>iu [0,0,1,0,3,0,4,0,2,1,5,1,6,1,7,2] .nil|_=>.nil
def yH:DA [oG]->(DV->Prop)->Prop:=λ⟨⟨h,i,f,p,j,r,k,l,n,o,s,q,t,u,v,w,m,b,x,y,z,A,B,W,c,D,X,F,G,Z,I,J,L,M,N,O,P,Q,e,g,R,S,T,Q0,_⟩,_⟩K=>K (.a (lI.d ⟨⟨⟨⟨h,i,f⟩,p,j,⟨r,k,l,n,o⟩,⟨s,q,t,u⟩,⟨v,w,m,b⟩⟩,x,y,z,A⟩,⟨⟨⟨B,W,c⟩,D,X,⟨F,G,Z,I,J⟩,⟨L,M,N,O⟩,⟨P,Q,e,g⟩⟩,R,S,T,Q0⟩⟩))
def RA:fi aa.prog 78 [oG] yH:=by refine aV (TR:=UA) aJ au Im (Rn.fM func78) rfl ?_;dsimp only[DA,HL,Sh.T];rintro⟨⟨k,l,f,p,n,o,t,r,u,v,w,s,x,y,z,A,m,g,q,a,B,W,D,X,h,F,G,Z,I,b,J,L,M,c,N,O,P,Q,i,j,d,e,R,S,_⟩,_⟩K hK⟨⟨_,_,_,_,_,_,_,h1,_,_,_,h2,_,_,_,_,_,_,h3,h4,_,_,_,_,_,_,_,_,_,g1,_,_,_,g2,_,_,_,_,_,_,g3,g4,_⟩,_⟩;dsimp only[yH]at hK;replace h1:=gl r h1;replace h2:=gl s h2;replace h3:=gl q h3;replace h4:=gl a h4;replace g1:=gl b g1;replace g2:=gl c g2;replace g3:=gl d g3;replace g4:=gl e g4;exact gW
def He:CS:=cz [oG] yH
def MQ:bF aa.prog 78 He:=bc RA
def Nx:bK:=[(63,kO)]
def Fe:aR aa.prog Nx:=an ⟨kD,aA⟩
def we:DA [oG]->(DV->Prop)->Prop:=λ⟨⟨e,g,f,p,h,r,i,j,k,n,s,o,q,t,u,w,m,a,x,y,z,A,B,W,b,D,X,F,G,Z,I,J,L,M,N,O,P,Q,c,d,R,S,T,Q0,_⟩,_⟩K=>K (.l (.v (.bool (iZ ⟨⟨⟨⟨e,g,f⟩,p,h,⟨r,i,j,k,n⟩,⟨s,o,q,t⟩,⟨u,w,m,a⟩⟩,x,y,z,A⟩,⟨⟨⟨B,W,b⟩,D,X,⟨F,G,Z,I,J⟩,⟨L,M,N,O⟩,⟨P,Q,c,d⟩⟩,R,S,T,Q0⟩⟩))))
def M4:fi aa.prog 42 [oG] we:=by
 refine aV (TR:=eT) aJ au Fe (Rn.fM func42) rfl ?_;dsimp only[DA,HL,Sh.T];rintro⟨⟨l,n,f,p,o,t,u,r,v,w,x,s,y,z,A,B,m,g,q,a,W,D,X,F,i,G,Z,I,J,b,L,M,N,c,O,P,Q,R,j,k,d,e,S,Q0,_⟩,_⟩K hK⟨⟨_,_,_,_,_,_,_,h1,_,_,_,h2,_,_,_,_,_,_,h3,h4,_,_,_,_,_,_,_,_,_,g1,_,_,_,g2,_,_,_,_,_,_,g3,g4,_⟩,_⟩;dsimp only[we]at hK;replace h1:=gl r h1;replace h2:=gl s h2;replace h3:=gl q h3;replace h4:=gl a h4;replace g1:=gl b g1;replace g2:=gl c g2;replace g3:=gl d g3;replace g4:=gl e g4;repeat'(conv=>whnf);first|refine U0 ?_ ?_;exact gS|refine U1 ?_|apply gU;exact gA|refine gB ?_ ?_<;>intro Q1 h<;>try exact bG
 all_goals(refine gI hK ?_;repeat' first|exact gR|refine U0 ?_ ?_);simp_all[iZ]
def qF:CS:=cz [oG] we
def qh:bF aa.prog 42 qF:=bc M4
def NL:bK:=[(70,nD)]
def Fv:aR aa.prog NL:=an ⟨nN,aA⟩
def wy:DA [oG]->(DV->Prop)->Prop:=λ⟨⟨e,g,f,p,h,r,i,j,k,n,s,o,q,t,u,w,m,a,x,y,z,A,B,W,b,D,X,F,G,Z,I,J,L,M,N,O,P,Q,c,d,R,S,T,Q0,_⟩,_⟩K=>K (.l (.v (.bool (iZ ⟨⟨⟨⟨e,g,f⟩,p,h,⟨r,i,j,k,n⟩,⟨s,o,q,t⟩,⟨u,w,m,a⟩⟩,x,y,z,A⟩,⟨⟨⟨B,W,b⟩,D,X,⟨F,G,Z,I,J⟩,⟨L,M,N,O⟩,⟨P,Q,c,d⟩⟩,R,S,T,Q0⟩⟩))))
def Ng:fi aa.prog 50 [oG] wy:=by
 refine aV (TR:=eT) aJ au Fv (Rn.fM func50) rfl ?_;dsimp only[DA,HL,Sh.T];rintro⟨⟨l,n,f,p,o,t,u,r,v,w,x,s,y,z,A,B,m,g,q,a,W,D,X,F,i,G,Z,I,J,b,L,M,N,c,O,P,Q,R,j,k,d,e,S,Q0,_⟩,_⟩K hK⟨⟨_,_,_,_,_,_,_,h1,_,_,_,h2,_,_,_,_,_,_,h3,h4,_,_,_,_,_,_,_,_,_,g1,_,_,_,g2,_,_,_,_,_,_,g3,g4,_⟩,_⟩;dsimp only[wy]at hK;replace h1:=gl r h1;replace h2:=gl s h2;replace h3:=gl q h3;replace h4:=gl a h4;replace g1:=gl b g1;replace g2:=gl c g2;replace g3:=gl d g3;replace g4:=gl e g4;repeat'(conv=>whnf);first|refine U0 ?_ ?_;exact gS|refine U1 ?_|apply gU;exact gA|refine gB ?_ ?_<;>intro Q1 h<;>try exact bG
 all_goals(refine gI hK ?_;repeat' first|exact gR|refine U0 ?_ ?_);simp_all[iZ]
def v7:CS:=cz [oG] wy
def xE:bF aa.prog 50 v7:=bc Ng
def BO:bK:=[]
def Iy:aR aa.prog BO:=an trivial
def yu:CS:=FQ fQ BO eT f184
def zo:bF aa.prog 184 yu:=eP aJ au Iy (Rn.fM func184)
def DX:bK:=[(142,sM),(95,tF),(184,yu)]
def KQ:aR aa.prog DX:=an ⟨rY,qH,zo,aA⟩
def LU:CS:=FQ fQ DX eT f140
def Rg:bF aa.prog 140 LU:=eP aJ au KQ (Rn.fM func140)
def DW:bK:=[(142,sM),(184,yu)]
def KL:aR aa.prog DW:=an ⟨rY,zo,aA⟩
def LO:CS:=FQ fQ DW eT f143
def Rf:bF aa.prog 143 LO:=eP aJ au KL (Rn.fM func143)
def BP:bK:=[(185,DJ)]
def Iz:aR aa.prog BP:=an ⟨JQ,aA⟩
def UE:Nat->Tr:=λn=>match n with|5=>iu [0,0,1,0,2,0,3,0,4,0,5,0] (.iY 6 1 (iu [7,0,8,0,9,0,10,1,11,1,12,2] .nil) 10 1 (iu [6,1,7,1,8,0,9,0,11,1,12,2] .nil))|_=>.nil
def Hl:CS:=FQ fQ BP UE f141
def MY:bF aa.prog 141 Hl:=eP aJ au Iz (Rn.fM func141)
def So:bK:=[(92,rB),(139,AY),(140,LU),(141,Hl),(142,sM),(143,LO)]
def IA:aR aa.prog So:=an ⟨pd,BI,Rg,MY,rY,Rf,aA⟩
def Yn:DA [lN]->(DV->Prop)->Prop:=λ⟨⟨f,b,l,p,n,r,rt,c,o,e,s,u,w,g,x,h,m,a,q,i,j,k,_⟩,_⟩K=>af (eR ⟨⟨⟨f,b,l⟩,p,n,⟨r,rt,c,o,e⟩,⟨s,u,w,g⟩,⟨x,h,m,a⟩⟩,q,i,j,k⟩=E)<|K (.t [.inr (fe.d (dj 40 ⟨⟨⟨f,b,l⟩,p,n,⟨r,rt,c,o,e⟩,⟨s,u,w,g⟩,⟨x,h,m,a⟩⟩,q,i,j,k⟩).1),.inl (.v (.int .i64 (dj 40 ⟨⟨⟨f,b,l⟩,p,n,⟨r,rt,c,o,e⟩,⟨s,u,w,g⟩,⟨x,h,m,a⟩⟩,q,i,j,k⟩).2))])
def RO:fi aa.prog 115 [lN] Yn:=by
 refine aV (TR:=eT) aJ au IA (Rn.fM func115) rfl ?_;dsimp only[DA,HL,Sh.T];rintro⟨⟨I,J,A,L,M,N,O,D,P,Q,R,Q0,S,Q1,Q2,W,B,Q3,F,G,X,Q4,_⟩,_⟩K⟨hvZ,hK⟩⟨⟨-,-,-,-,-,-,-,h1,-,-,-,h2,-,-,-,-,-,-,h3,h4,-⟩,-⟩;replace hK:K (.t [.inr (fe.d (dj 40 ⟨⟨⟨I,J,A⟩,L,M,⟨N,O,D,P,Q⟩,⟨R,Q0,S,Q1⟩,⟨Q2,W,B,Q3⟩⟩,F,G,X,Q4⟩).1),.inl (.v (.int .i64 (dj 40 ⟨⟨⟨I,J,A⟩,L,M,⟨N,O,D,P,Q⟩,⟨R,Q0,S,Q1⟩,⟨Q2,W,B,Q3⟩⟩,F,G,X,Q4⟩).2))]):=hK;replace hvZ:eR ⟨⟨⟨I,J,A⟩,L,M,⟨N,O,D,P,Q⟩,⟨R,Q0,S,Q1⟩,⟨Q2,W,B,Q3⟩⟩,F,G,X,Q4⟩=E:=hvZ;replace h1:=gl D h1;replace h2:=gl Q0 h2;replace h3:=gl F h3;replace h4:=gl G h4;repeat'(conv=>whnf);first|refine U0 ?_ ?_;exact gS|refine U1 ?_|apply gU;exact gA|refine gB ?_ ?_<;>intro Q5 h<;>try exact bG
 refine dt.mI {s:Wc//s.ok ⟨⟨⟨I,J,A⟩,L,M,⟨N,O,D,P,Q⟩,⟨R,Q0,S,Q1⟩,⟨Q2,W,B,Q3⟩⟩,F,G,X,Q4⟩} (λs=>[(10,.j),(5,.l (.v (.int .i64 s.1.n)))]) (λs=>[(6,.b (WM s.1.x 2 3 4 5) 45),(2,.r 0 80 (.bC s.1.x.p.rc.items)),(3,.r 0 3 (.bn s.1.x.p.sd.items)),(4,.r 0 3 (.bn s.1.x.pM)),(5,.r 0 3 (.bn s.1.x.out))]) (λs=>40-s.1.n) ⟨⟨⟨⟨⟨I,J,A⟩,L,M,⟨N,O,D,P,Q⟩,⟨R,Q0,S,Q1⟩,⟨Q2,W,B,Q3⟩⟩,F,G,X,Q4⟩,0⟩,zac hvZ⟩ [0,1,2,3,4,5,6] ?_ ?_;.repeat' first|refine U0 ?_ ?_;exact gV|exact aA
 clear h1 h2 h3 h4;rintro⟨⟨⟨⟨⟨o,u,fst⟩,f,pc,⟨w,rt,i,ro,y⟩,⟨g,sl,ss,k⟩,⟨mc,z,m,a⟩⟩,qi,qo,cw,cl⟩,n⟩,hs⟩;dsimp only[WM];have hv:=hs.1;have hm:=hs.2.1;obtain⟨hp,hqi,Z,hcw,hcl⟩:=dw hv;have hl:=Om hp;dsimp only at hp hqi Z hcw hcl hl hm;have hn:n<=19:=Y0;cases zb0 hp with
 |none e _ _=>
  have d1:decide (cS ⟨⟨o,u,fst⟩,f,pc,⟨w,rt,i,ro,y⟩,⟨g,sl,ss,k⟩,⟨mc,z,m,a⟩⟩=1)=E:=by simp[e]
  rw[zeJ hs e]at hK;exact gW|zd2 e hx=>
  have hn1:cS ⟨⟨o,u,fst⟩,f,pc,⟨w,rt,i,ro,y⟩,⟨g,sl,ss,k⟩,⟨mc,z,m,a⟩⟩≠1:=Y0;have d1:decide (cS ⟨⟨o,u,fst⟩,f,pc,⟨w,rt,i,ro,y⟩,⟨g,sl,ss,k⟩,⟨mc,z,m,a⟩⟩=1)=H:=by simp[e]
  have d6:decide (cS ⟨⟨o,u,fst⟩,f,pc,⟨w,rt,i,ro,y⟩,⟨g,sl,ss,k⟩,⟨mc,z,m,a⟩⟩=6)=H:=by simp[e]
  have d2:decide (cS ⟨⟨o,u,fst⟩,f,pc,⟨w,rt,i,ro,y⟩,⟨g,sl,ss,k⟩,⟨mc,z,m,a⟩⟩=2)=H:=by simp[e]
  have d0:decide (cS ⟨⟨o,u,fst⟩,f,pc,⟨w,rt,i,ro,y⟩,⟨g,sl,ss,k⟩,⟨mc,z,m,a⟩⟩=0)=E:=by simp[e]
  have hl6:=nV ⟨⟨o,u,fst⟩,f,pc,⟨w,rt,i,ro,y⟩,⟨g,sl,ss,k⟩,⟨mc,z,m,a⟩⟩ 6;dsimp only at hl6;repeat'(conv=>whnf);first|refine U0 ?_ ?_;exact gS|refine U1 ?_|apply gU;exact gA|refine gB ?_ ?_<;>intro Q5 h<;>try exact bG
  have key:=zab hs e;dsimp only at key;(refine ae ⟨⟨_,_⟩,key⟩ (ae [0,1,7,8,4,5,6] (aB ?_ ?_)));.show 40-(n+1)<40-n;omega
  .repeat' first|refine U0 ?_ ?_;exact gV|exact aA
 |line e he hx=>
  have hn1:cS ⟨⟨o,u,fst⟩,f,pc,⟨w,rt,i,ro,y⟩,⟨g,sl,ss,k⟩,⟨mc,z,m,a⟩⟩≠1:=Y0;have d1:decide (cS ⟨⟨o,u,fst⟩,f,pc,⟨w,rt,i,ro,y⟩,⟨g,sl,ss,k⟩,⟨mc,z,m,a⟩⟩=1)=H:=by simp[e]
  have d6:decide (cS ⟨⟨o,u,fst⟩,f,pc,⟨w,rt,i,ro,y⟩,⟨g,sl,ss,k⟩,⟨mc,z,m,a⟩⟩=6)=E:=by simp[e]
  have hl5:=nV ⟨⟨o,u,fst⟩,f,pc,⟨w,rt,i,ro,y⟩,⟨g,sl,ss,k⟩,⟨mc,z,m,a⟩⟩ 5;have zqE:=nV (bI ⟨⟨o,u,fst⟩,f,pc,⟨w,rt,i,ro,y⟩,⟨g,sl,ss,k⟩,⟨mc,z,m,a⟩⟩ 5).p 0;have hn5:0<=(bI ⟨⟨o,u,fst⟩,f,pc,⟨w,rt,i,ro,y⟩,⟨g,sl,ss,k⟩,⟨mc,z,m,a⟩⟩ 5).n/\(bI ⟨⟨o,u,fst⟩,f,pc,⟨w,rt,i,ro,y⟩,⟨g,sl,ss,k⟩,⟨mc,z,m,a⟩⟩ 5).n<=127:=by rw[zis hp];exact tr hp
  dsimp only at hl5 zqE;cases hb2:decide ((bI ⟨⟨o,u,fst⟩,f,pc,⟨w,rt,i,ro,y⟩,⟨g,sl,ss,k⟩,⟨mc,z,m,a⟩⟩ 5).n/2%2=1)<;>cases hb4:decide ((bI ⟨⟨o,u,fst⟩,f,pc,⟨w,rt,i,ro,y⟩,⟨g,sl,ss,k⟩,⟨mc,z,m,a⟩⟩ 5).n/4%2=1)<;>cases hb8:decide ((bI ⟨⟨o,u,fst⟩,f,pc,⟨w,rt,i,ro,y⟩,⟨g,sl,ss,k⟩,⟨mc,z,m,a⟩⟩ 5).n/8%2=1);all_goals have key:=zeI hs e hb2 hb4 hb8;dsimp only[Bool.or_true,Bool.or_false,G4,vS]at key
  all_goals
   repeat'(conv=>whnf);first|refine U0 ?_ ?_;exact gS|refine U1 ?_|apply gU;exact gA|refine gB ?_ ?_<;>intro Q5 h<;>try exact bG
   first|((refine ae ⟨⟨_,_⟩,key⟩ (ae [0,1,9,10,4,5,6] (aB ?_ ?_)));(focus(show 40-(n+1)<40-n;omega));(repeat' first|refine U0 ?_ ?_;exact gV|exact aA);done)|((refine ae ⟨⟨_,_⟩,key⟩ (ae [0,1,12,13,4,5,6] (aB ?_ ?_)));(focus(show 40-(n+1)<40-n;omega));(repeat' first|refine U0 ?_ ?_;exact gV|exact aA);done)
 |data e6 e2 e0 e1 e hx _=>
  have d1:decide (cS ⟨⟨o,u,fst⟩,f,pc,⟨w,rt,i,ro,y⟩,⟨g,sl,ss,k⟩,⟨mc,z,m,a⟩⟩=1)=H:=by simp[e1]
  have d6:decide (cS ⟨⟨o,u,fst⟩,f,pc,⟨w,rt,i,ro,y⟩,⟨g,sl,ss,k⟩,⟨mc,z,m,a⟩⟩=6)=H:=by simp[e6]
  have d2:decide (cS ⟨⟨o,u,fst⟩,f,pc,⟨w,rt,i,ro,y⟩,⟨g,sl,ss,k⟩,⟨mc,z,m,a⟩⟩=2)=H:=by simp[e2]
  have d0:decide (cS ⟨⟨o,u,fst⟩,f,pc,⟨w,rt,i,ro,y⟩,⟨g,sl,ss,k⟩,⟨mc,z,m,a⟩⟩=0)=H:=by simp[e0]
  have hl0:=nV ⟨⟨o,u,fst⟩,f,pc,⟨w,rt,i,ro,y⟩,⟨g,sl,ss,k⟩,⟨mc,z,m,a⟩⟩ 0;dsimp only at hl0;by_cases hq:qi.length<32
  .have key:=Oj hs e6 e2 e0 e1 (b:=E) (by simpa using hq);dsimp only at key;repeat'(conv=>whnf);first|refine U0 ?_ ?_;exact gS|refine U1 ?_|apply gU;exact gA|refine gB ?_ ?_<;>intro Q5 h<;>try exact bG
   (refine ae ⟨⟨_,_⟩,key⟩ (ae [0,1,9,10,4,5,6] (aB ?_ ?_)));.show 40-(n+1)<40-n;omega
   .repeat' first|refine U0 ?_ ?_;exact gV|exact aA
  .have key:=Oj hs e6 e2 e0 e1 (b:=H) (by simpa using hq);dsimp only at key;repeat'(conv=>whnf);first|refine U0 ?_ ?_;exact gS|refine U1 ?_|apply gU;exact gA|refine gB ?_ ?_<;>intro Q5 h<;>try exact bG
   (refine ae ⟨⟨_,_⟩,key⟩ (ae [0,1,9,10,4,5,6] (aB ?_ ?_)));.show 40-(n+1)<40-n;omega
   .repeat' first|refine U0 ?_ ?_;exact gV|exact aA
 |empty e he hx=>
  have d1:decide (cS ⟨⟨o,u,fst⟩,f,pc,⟨w,rt,i,ro,y⟩,⟨g,sl,ss,k⟩,⟨mc,z,m,a⟩⟩=1)=H:=by simp[e]
  have d6:decide (cS ⟨⟨o,u,fst⟩,f,pc,⟨w,rt,i,ro,y⟩,⟨g,sl,ss,k⟩,⟨mc,z,m,a⟩⟩=6)=H:=by simp[e]
  have d2:decide (cS ⟨⟨o,u,fst⟩,f,pc,⟨w,rt,i,ro,y⟩,⟨g,sl,ss,k⟩,⟨mc,z,m,a⟩⟩=2)=E:=by simp[e]
  cases ho:qo with
  |nil=>
   subst ho;have hpe:0<=f/\f<=15:=(du hp).2.1;have key:=VG hs e rfl (en:=f-2) rfl;repeat'(conv=>whnf);first|refine U0 ?_ ?_;exact gS|refine U1 ?_|apply gU;exact gA|refine gB ?_ ?_<;>intro Q5 h<;>try exact bG
   (refine ae ⟨⟨_,_⟩,key⟩ (ae [0,1,2,3,4,5,6] (aB ?_ ?_)))
   .show 40-(n+1)<40-n;omega
   .repeat' first|refine U0 ?_ ?_;exact gV|exact aA
  |cons b r=>
   subst ho;have Q5:ed b=E:=(pR Z.2).1;have hp5:=(du hp).2.2.2.2;have hlen:0<(b::r).length:=Nat.succ_pos _;have hc:(ed ((b::r).getD (aC 0) 0)&&decide ((sl.length:Int)<g))=E:=by have h1:=(iU hp5).1.2.2;replace hx:sl=[]:=hx;subst hx;dsimp only at h1;simp[Q5];omega
   repeat'(conv=>whnf);first|refine U0 ?_ ?_;exact gS|refine U1 ?_|apply gU;exact gA|refine gB ?_ ?_<;>intro Q5 h<;>try exact bG
   refine dt.un 1 ?_;repeat'(conv=>whnf);first|refine U0 ?_ ?_;exact gS|refine dS.mk ?_ ?_;exact YT|refine U1 ?_|apply gU;exact gA|refine gB ?_ ?_<;>intro Q5 h<;>try exact bG
   refine Lc.mI {s:zw×List Int//zfq ⟨g,sl,ss,k⟩ (b::r) s} (λ_=>[]) (λs=>[(7,.b (WM (Gs ⟨⟨⟨o,u,fst⟩,f,pc,⟨w,rt,i,ro,y⟩,⟨g,sl,ss,k⟩,⟨mc,z,m,a⟩⟩,qi,b::r,cw,cl⟩ s.1.1 s.1.2) 10 11 4 12) 45),(9,.d),(10,.r 0 80 (.bC i)),(11,.r 0 3 (.bn s.1.1.items)),(12,.r 0 3 (.bn s.1.2))]) (λs=>s.1.2.length) ⟨(⟨g,sl++[b],ss,k⟩,r),VJ hp5 hx Z.2 Z.1⟩ [0,1,2,3,4,5,6,7,8,9,10,11,12] ?_ ?_;.repeat'(first|(refine U0 ?_ ?_;focus(first|with_reducible exact rfl|exactλ_ h=>h|exact⟨⟨rfl,rfl,rfl,rfl⟩,aA⟩|(simp only[EL.len];done)|(simp[EL.len];done)|exact⟨rfl,aA⟩|exact⟨⟨rfl,rfl⟩,rfl,rfl⟩|exact⟨rfl,rfl,aA⟩|exact rfl|kernel_rfl))|exact aA)
   rintro⟨⟨⟨sr',sl',ss',sf'⟩,q⟩,hI⟩;dsimp only[WM,Gs];have hI2:=(iU hI.2.1);have hI3:=hI.2.2;dsimp only at hI2 hI3;obtain⟨p1,p2,p3,p4,p5⟩:=du hp;have hpi:eL ⟨⟨o,u,fst⟩,f,pc,⟨w,rt,i,ro,y⟩,⟨sr',sl',ss',sf'⟩,⟨mc,z,m,a⟩⟩=E:=hU p1 p2 p3 p4 hI.2.1;clear p1 p2 p3 p4 p5;cases q with
   |nil=>
    have key:=Cy hs e Y1 (On hI (.inl rfl));repeat'(conv=>whnf);first|refine U0 ?_ ?_;exact gS|refine dS.mk ?_ ?_;exact YT|refine U1 ?_|apply gU;exact gA|refine gB ?_ ?_<;>intro Q5 h<;>try exact bG
    (refine ae ⟨⟨_,_⟩,key⟩ (ae [0,1,10,11,4,12,6] (aB ?_ ?_)));.show 40-(n+1)<40-n;omega
    .repeat' first|refine U0 ?_ ?_;exact gV|exact aA
   |cons c q=>
    have hqc:ed c=E:=(pR hI3.1).1;have zAn:0<(c::q).length:=Nat.succ_pos _;by_cases hr:(sl'.length:Int)<sr'
    .have hc2:(ed ((c::q).getD (aC 0) 0)&&decide ((sl'.length:Int)<sr'))=E:=by simp[hqc,hr]
     repeat'(conv=>whnf);first|refine U0 ?_ ?_;exact gS|refine dS.mk ?_ ?_;exact YT|refine U1 ?_|apply gU;exact gA|refine gB ?_ ?_<;>intro Q5 h<;>try exact bG
     (refine ae ⟨(_,q),PI hI hr⟩ (ae [0,1,2,3,4,5,6,7,8,9,14,15,16] (aB ?_ ?_)));.show q.length<(c::q).length;exact Nat.lt_succ_self _
     .repeat'(first|(refine U0 ?_ ?_;focus(first|with_reducible exact rfl|exactλ_ h=>h|exact⟨⟨rfl,rfl,rfl,rfl⟩,aA⟩|(simp only[EL.len];done)|(simp[EL.len];done)|exact⟨rfl,aA⟩|exact⟨⟨rfl,rfl⟩,rfl,rfl⟩|exact⟨rfl,rfl,aA⟩|exact rfl|kernel_rfl))|exact aA)
    .have hc2:(ed ((c::q).getD (aC 0) 0)&&decide ((sl'.length:Int)<sr'))=H:=by simp[hr]
     have key:=Cy hs e Y1 (On hI (.inr hr));repeat'(conv=>whnf);first|refine U0 ?_ ?_;exact gS|refine dS.mk ?_ ?_;exact YT|refine U1 ?_|apply gU;exact gA|refine gB ?_ ?_<;>intro Q5 h<;>try exact bG
     (refine ae ⟨⟨_,_⟩,key⟩ (ae [0,1,10,11,4,12,6] (aB ?_ ?_)))
     .show 40-(n+1)<40-n;omega
     .repeat' first|refine U0 ?_ ?_;exact gV|exact aA
def zo1(l:List Int):DV:=.l (.s 3 (.bn l))
def pw(n:Int):Int:=if n<=5 then 32 else if n<=6 then 64 else if n<=7 then 128 else 256
def zhC(a b:Fmt)(g:Int):Int:=g%pw (kG a.bits b.bits)
def sc(a b:Fmt):Int:=if a=b then 0 else 2
def ns(r:z7)(a f:Fmt)(gone:Int):z7:=if gone<0 then Av r else Ll r (zhC a f gone,sc a f)
def sB(p:sZ)(f:Fmt)(gone:Int):z7:=ns p.rc p.f f gone
def S9(m:UL)(c:Int):UL:=O0 m (decide (c/2%2=1)) (decide (c%2=1))
def Ev(p q:sZ):sZ:=⟨p.f,p.en,p.co,sB p q.f (fI q.sd).2,(fI p.sd).1,S9 p.md q.co⟩
structure YE where
 a:sZ
 b:sZ
def YE.d(x:YE):List DL:=x.a.d++x.b.d
def C1(x:YE):Bool:=eL x.a&&eL x.b
def wX(x:YE):YE:=⟨Ev x.a x.b,Ev x.b x.a⟩
def zui:YE:=⟨Ej,Ej⟩
structure zqm where
 p:YE
 ok:Bool
def As(x:YE):zqm:=if C1 x then⟨wX x,E⟩else⟨zui,H⟩
def zqm.d(x:zqm):DV:=.t [.inr x.p.d,.inl (.v (.bool x.ok))]
def znp:∀(k:Fin 4)(b:Fin 256),aD.wrap (aS aD.bits (b.val:Int)&&&aS aD.bits (pw ((k.val:Int)+5)-1)).toNat=(b.val:Int)%pw ((k.val:Int)+5):=by decide+kernel
def zno{n:Int}(d:5<=n/\n<=8)(c:0<=b/\b<=255):aD.wrap (aS aD.bits b&&&aS aD.bits (pw n-1)).toNat=b%pw n:=by have h:=znp ⟨(n-5).toNat,Y0⟩ ⟨b.toNat,Y0⟩;have e:(((n-5).toNat:Nat):Int)+5=n:=Y0;have a:((b.toNat:Nat):Int)=b:=Y0;simp only[e,a]at h;exact h
def zca{n:Int}(h:5<=n/\n<=8):aD.wrap (1*2^(min n.toNat aD.bits))=pw n:=by have c:n=5\/n=6\/n=7\/n=8:=Y0;rcases c with rfl|rfl|rfl|rfl<;>decide+kernel
def U3(n:Int):32<=pw n/\pw n<=256:=by
 unfold pw;split;.omega
 .omega
def zre:∀c:Fin 4,(!decide (aD.wrap (aS aD.bits (c.val:Int)&&&aS aD.bits 2).toNat=0))=decide ((c.val:Int)/2%2=1):=by decide+kernel
def zrd:∀c:Fin 4,(!decide (aD.wrap (aS aD.bits (c.val:Int)&&&aS aD.bits 1).toNat=0))=decide ((c.val:Int)%2=1):=by decide+kernel
def zeE(c:5<=a/\a<=8)(h:5<=b/\b<=8):5<=kG a b/\kG a b<=8:=by unfold kG;split<;>omega
def xy(v:lg s=E):(fI s).2=-1\/(0<=(fI s).2/\(fI s).2<=255):=by
 have⟨_,_,h⟩:=iU v;have e:(fI s).2=(y5 s).1:=by
  unfold fI;split;.grind
  .rfl
 rw[e];unfold y5;split;.omega
 .grind
def zaY(h:fT r=E):fT (Av r)=E:=by
 have⟨a,b,c,e,d⟩:=nu h;refine xd a b c ?_ d;split
 .unfold kG;split<;>omega
 .omega
def zcV{g:Int×Int}(h:fT r=E)(d:zE g=E):fT (Ll r g)=E:=by
 have⟨a,b,e,f,c⟩:=nu h;unfold Ll;split
 .apply xd a b (by simp;omega) Y0;simp only[Eb,List.all_append,fh,List.all_nil,d,Bool.and_true];exact c
 .exact xd a b e Y0 c
def Xb{a b:Fmt}(e:0<=g/\g<=255):zE (zhC a b g,sc a b)=E:=by
 have p:=U3 (kG a.bits b.bits);have c:0<=zhC a b g:=gN _ Y0;have d:zhC a b g<=255:=by have f:zhC a b g<pw (kG a.bits b.bits):=Int.emod_lt_of_pos _ Y0;omega
 have h:0<=sc a b/\sc a b<=2:=by unfold sc;split<;>omega
 simp[zE,ed,c,d,h.1,h.2]
def Xv{x:YE}(h:C1 x=E):eL x.a=E/\eL x.b=E:=by simpa[C1]using h
def XP{q:sZ}(d:eL p=E)(b:eL q=E):fT (sB p q.f (fI q.sd).2)=E:=by
 have⟨_,_,_,a,_⟩:=du d;have⟨_,_,_,_,c⟩:=du b;unfold sB ns;split;.exact zaY a
 .rcases xy c with h|h;.omega
  .exact zcV a (Xb h)
def Yj{q:sZ}(f:eL p=E)(h:eL q=E):eL (Ev p q)=E:=by have⟨a,b,c,e,d⟩:=du f;exact hU a b c (XP f h) (E1 d)
def zkF{q:sZ}{R a:z7}(v:C1 ⟨p,q⟩=E)(h:sB p q.f (kJ q.sd).gone=R)(b:sB q p.f (kJ p.sd).gone=a):As ⟨p,q⟩=⟨⟨⟨p.f,p.en,p.co,R,(kJ p.sd).s,S9 p.md q.co⟩,⟨q.f,q.en,q.co,a,(kJ q.sd).s,S9 q.md p.co⟩⟩,E⟩:=by
 have⟨g,d⟩:=Xv v;have i:=(du d).2.2.2.2;have e:kJ p.sd=⟨(fI p.sd).1,(fI p.sd).2,E⟩:=by unfold kJ;rw[if_pos ((du g).2.2.2.2)]
 have c:kJ q.sd=⟨(fI q.sd).1,(fI q.sd).2,E⟩:=by unfold kJ;rw[if_pos i]
 rw[c]at h;rw[e]at b;rw[e,c];unfold As;rw[if_pos v];simp only[wX,Ev];rw[h,b]
def Zt{f:Fmt}(v:fT p.rc=E)(h:g<0):sB p f g=(Ew p.rc).r:=by unfold sB ns Ew;rw[if_pos h,if_pos v]
def zeb{f:Fmt}(v:fT p.rc=E)(m:5<=kG p.f.bits f.bits/\kG p.f.bits f.bits<=8)(h:0<=g/\g<=255)(d:sc p.f f=c):sB p f g=(sg p.rc (aD.wrap (aS aD.bits g&&&aS aD.bits (aD.wrap (1*2^(min (kG p.f.bits f.bits).toNat aD.bits))-1)).toNat,c)).r:=by subst d;rw[zca m,zno m h];unfold sB ns sg;rw[if_neg Y0,if_pos (by simp[v,Bool.true_and];exact Xb (a:=p.f) (b:=f) h)];rfl
def ziO{f d:Int}(h:(!(decide (a=e)&&(decide (b=f)&&(decide (c=d)&&E))))=H):sc ⟨a,b,c⟩ ⟨e,f,d⟩=0:=by simp at h;simp[sc,h]
def ziP{f d:Int}(h:(!(decide (a=f)&&(decide (b=g)&&(decide (c=d)&&E))))=E):sc ⟨a,b,c⟩ ⟨f,g,d⟩=2:=by simp at h;unfold sc;rw[if_neg];intro e;cases e;simp at h
def I9(x:lI):lI:=⟨(dj 40 ⟨Ev x.a.p x.b.p,x.a.pM,x.a.out,x.a.eX,x.a.cX⟩).1,(dj 40 ⟨Ev x.b.p x.a.p,x.b.pM,x.b.out,x.b.eX,x.b.cX⟩).1⟩
def xe{d:fe}{q:sZ}(h:eR d=E)(a:eL q=E):eR ⟨Ev d.p q,d.pM,d.out,d.eX,d.cX⟩=E:=by have⟨b,c,e,f,g⟩:=dw h;exact nf (Yj b a) c e f g
def zi2{x:lI}(h:iZ x=E):x.a.p.f=x.b.p.f:=by simp[iZ,aj,decide_eq_true_eq]at h;have⟨_,c,d,e⟩:=h;cases g:x.a.p.f;cases y:x.b.p.f;rw[g,y]at c d e;simp_all
def Px{x:lI}(h:eR x.a=E)(c:eR x.b=E)(d:x.a.p.f=x.b.p.f):iZ x=E:=by simp[iZ,h,c,d]
def zaU{x:lI}(h:iZ x=E):iZ (I9 x)=E:=by have⟨f,c⟩:=qz h;have p:=(dw c).1;have v:=xe f p;have d:=xe c ((dw f).1);have⟨g,_,_,_,_,_,_,_,_,_,a⟩:=QK 40 _ v (by have:=zcd v;omega);have⟨e,_,_,_,_,_,_,_,_,_,b⟩:=QK 40 _ d (by have:=zcd d;omega);exact Px g e (a.trans ((zi2 h).trans b.symm))
def mK:Nat->lI->lI|0,x=>x|n+1,x=>I9 (mK n x)
def yh{x:lI}(h:iZ x=E):∀n,iZ (mK n x)=E|0=>h|n+1=>zaU (yh h n)
def mJ(x:lI)(t:Int):zbu:=if iZ x=E/\0<=t/\t<=150 then⟨mK t.toNat x,E⟩else⟨zmy,H⟩
def zrI(x:lI):Prop:=O9 x.a/\O9 x.b
def Xo{x:lI}(h:iZ x=E):zrI x:=⟨Gc (qz h).1,Gc (qz h).2⟩
def fo(x:lI):List Int:=if iZ x=E then((x.b.pM++x.b.p.rc.items.map oP)++(if x.a.p.sd.shift=-1 then[]else[x.a.p.sd.shift]))++x.a.p.sd.items++x.a.out else[]
def EI(x:lI):(fo x).length<=200:=by
 unfold fo;split
 .rename_i h;have⟨⟨e,f,g,i⟩,⟨b,a,c,d⟩⟩:=Xo h;split<;>simp<;>omega
 .simp
def vM(e:Int):Int:=if e/2%2=1 then e else e+2
def dZ(x:fe)(l:List Int):YM:=if eR x=E/\iw l=E/\x.out.length+l.length<=32 then⟨⟨⟨x.p.f,if x.out++l=[]then x.p.en else vM x.p.en,x.p.co,x.p.rc,x.p.sd,x.p.md⟩,x.pM,x.out++l,x.eX,x.cX⟩,E⟩else⟨FT,H⟩
def L9(h:(dZ x l).ok=E):eR x=E/\iw l=E/\x.out.length+l.length<=32/\eR (dZ x l).x=E:=by
 unfold dZ at h⊢;split at h
 .rename_i g;rw[if_pos g];have⟨a,b,c,d,e⟩:=dw g.1;have⟨p,i,j,k,f⟩:=du a;refine⟨g.1,g.2.1,g.2.2,nf (hU p ?_ j k f) b ⟨by simp;omega,w8.2 ⟨c.2,g.2.1⟩⟩ d e⟩;unfold vM;split;.exact i
  .omega
 .cases h
structure zbN where
 x:fe
 l:List Int
 ok:Bool
def aZ(x:fe)(m:Int):zbN:=if eR x=E/\0<=m/\m<=32 then⟨⟨x.p,x.pM.drop m.toNat,x.out,x.eX,x.cX⟩,x.pM.take m.toNat,E⟩else⟨FT,[],H⟩
def zbN.d(y:zbN):DV:=.t [.inr y.x.d,.inl (.s 3 (.bn y.l)),.inl (.v (.bool y.ok))]
def xr(x:fe)(m:Int):O9 (aZ x m).x/\(aZ x m).l.length<=32:=by
 unfold aZ;split
 .rename_i h;have⟨a,b,d,c⟩:=Gc h.1;refine⟨⟨a,b,?_,c⟩,?_⟩<;>simp<;>omega
 .exact⟨zjO,Y1⟩
def VZ{l:List (Int×Int)}{k:Nat}(h:k<l.length)(a:List Int):a++(l.take (k+1)).map oP=(a++(l.take k).map oP)++[(l.getD k (0,0)).1]:=by rw[List.take_succ_eq_append_getElem h,List.map_append,List.append_assoc];simp[bA,h]
def yv(x y:Int)(w:V)(g:Gw w):dE aa.prog 116 #[.agg #[.int .i64 x,.int .i64 y]] w λe w'=>e=.returned (.bool (zE (x,y)))/\cj w.heap.size w w':=by apply(BM ((x,y,()),()) (λd=>d=.l (.v (.bool (zE (x,y))))) rfl w #[.agg #[.int .i64 x,.int .i64 y]] ⟨⟨_,rfl,rfl,rfl,aA⟩,aA⟩ g).mono;rintro e w'⟨d,u,rfl,rfl,b,a,h,_⟩;obtain⟨rfl,_⟩:=h;simp_all
def GL.look{w:V}{B r:Nat}{l:List (Int×Int)}(h:GL w B r l):∃a b,w.heap[r]?=C (.cells #[a,b,.int .i64 l.length] 229 (0,0)):=by have⟨n,c,_⟩:=h;simp_all
def GL.drew{w:V}{B r:Nat}{l:List (Int×Int)}(h:GL w B r l):GL w.drew B r l:=h.s4 λ_ _ _=>rfl
def zaC(r t:Int)(v:Y)(l:List (Int×Int))(o:Bool)(a x y:Int)(w:V)(j:Sl w 2 v l.length (EL.bC l).di)(c:l.length<=1099511627776)(h:fT ⟨r,t,l,o,a⟩=H)(g:Gw w):dE aa.prog 146 #[.agg #[.int .i64 r,.int .i64 t,v,.bool o,.int .i64 a],.agg #[.int .i64 x,.int .i64 y]] w λe w'=>e=.returned (.tuple #[.agg #[.int .i64 0,.int .i64 0,.slice U 0 0,.bool H,.int .i64 0],.bool H])/\cj w.heap.size w w':=by have i:=hid h;obtain⟨p,m,rfl,-⟩:=j.form;have d:=hid j;go_enter aa.func146,ntmps146;go_wp2_with fail;apply(jH _ _ _ _ _ _ _ (d.out.below (dY _ _ _ _)) c (g.below (dY _ _ _ _))).mono;rintro e w1⟨rfl,b⟩;rw[i.out];have⟨f,q,k,z,B⟩:=Eo b;have⟨n,s⟩:=blk k;go_wp2;exact dB (by simp[results,results146,go_sem,n]) rfl ⟨rfl,(by repeat(first|(with_reducible omega)|(with_reducible refine dh ?_ Y8 _)|exact eh Y3))⟩
def XJ(r t:Int)(v:Y)(l:List (Int×Int))(o:Bool)(a x y:Int)(w:V)(p:Sl w 2 v l.length (EL.bC l).di)(f:l.length<=1099511627776)(h:fT ⟨r,t,l,o,a⟩=E)(d:zE (x,y)=H)(g:Gw w):dE aa.prog 146 #[.agg #[.int .i64 r,.int .i64 t,v,.bool o,.int .i64 a],.agg #[.int .i64 x,.int .i64 y]] w λe w'=>e=.returned (.tuple #[.agg #[.int .i64 0,.int .i64 0,.slice U 0 0,.bool H,.int .i64 0],.bool H])/\cj w.heap.size w w':=by have m:=hid h;have i:=hid d;obtain⟨A,q,rfl,-⟩:=p.form;have j:=hid p;go_enter aa.func146,ntmps146;go_wp2_with fail;apply(jH _ _ _ _ _ _ _ (j.out.below (dY _ _ _ _)) f (g.below (dY _ _ _ _))).mono;rintro e w1⟨rfl,c⟩;rw[m.out];have⟨k,s,n,z,B⟩:=Eo c;have⟨D,F⟩:=blk s;have n:=hid n;have B:=hid B;go_wp2_with fail;apply(yv _ _ _ (g.below Y0)).mono;rintro e w2⟨rfl,b⟩;rw[i.out];(have n:=hid (aY b Y0 n.out));have B:=hid (fp B.out b);have⟨u,G⟩:=blk n.out;go_wp2;exact dB (by simp[results,results146,go_sem,u]) rfl ⟨rfl,(by repeat(first|(with_reducible exact eh Y3)|(with_reducible refine dh ?_ Y8 _)|exact eh Y3))⟩
def XL(r t:Int)(v:Y)(l:List (Int×Int))(o:Bool)(a x y:Int)(w:V)(hv:Sl w 2 v l.length (EL.bC l).di)(hl:l.length<=100000)(A:fT ⟨r,t,l,o,a⟩=E)(P:zE (x,y)=E)(G:(l.length:Int)<r)(B:Gw w):dE aa.prog 146 #[.agg #[.int .i64 r,.int .i64 t,v,.bool o,.int .i64 a],.agg #[.int .i64 x,.int .i64 y]] w λe w'=>∃a' c,e=.returned (.tuple #[.agg #[.int .i64 r,.int .i64 t,.slice a' (l++[(x,y)]).length c,.bool o,.int .i64 0],.bool E])/\cj w.heap.size w w'/\kj w' w.heap.size (.slice a' (l++[(x,y)]).length c) (l++[(x,y)]):=by
 have k:=hid A;have T:=hid P;obtain⟨a0,cap,rfl,-⟩:=hv.form;have Q:=hid hv;have hl2:(l++[(x,y)]).length<=1099511627776:=by simp;omega
 go_enter aa.func146,ntmps146;go_wp2_with fail;apply(jH _ _ _ _ _ _ _ (Q.out.below (dY _ _ _ _)) Y0 (B.below (dY _ _ _ _))).mono;rintro e w1⟨rfl,Q0⟩;rw[k.out];have⟨k0,k1,k2,Q1,hB⟩:=Eo Q0;have Q2:=hid (Q.out.below hB);have⟨c1,f1⟩:=blk k1;have k1:=hid k1;have k0:=hid k0;have k2:=hid k2;have hB:=hid hB;go_wp2_with fail;apply(yv _ _ _ (B.below Y0)).mono;rintro e w2⟨rfl,b⟩;rw[T.out];have I:=hid (Q2.out.below b);(have k0:=hid (aY b Y0 k0.out));(have k1:=hid (aY b Y0 k1.out));(have k2:=hid (aY b Y0 k2.out));have hB:=hid (fp hB.out b);have W:=b.size;have⟨s,f0⟩:=blk k0.out;have z0:=(ab.1 k0.out).1;go_wp2_with fail;apply(np _ l _ I.out Y0).mono;rintro e w3⟨R,rfl,q,f⟩;have HR:=hid q;have⟨ga,gb,D⟩:=q.look;have X:=q.lt;(have k0:=hid (aY f Y0 k0.out));(have k1:=hid (aY f Y0 k1.out));(have k2:=hid (aY f Y0 k2.out));have hB:=hid (fp hB.out f);have J:=f.size;have⟨s,f0⟩:=blk k0.out;have z0:=(ab.1 k0.out).1;have⟨c1,f1⟩:=blk k1.out;have Q3:=(ab.1 k1.out).1;have⟨Z,f9⟩:=blk D;go_wp2_with fail;apply il (λ_=>True) (.op 0 0 (.op 1 0 (.op 2 0 (.op 3 0 (.op 4 0 (.op 5 0 (.op 6 0 (.nil)))))))) gK rfl gK gK gK (λ_ _ d _ _ h=>by cases d<;>exact h);go_wp2_with(first|(apply oU Y2 Y2 Y2 Y2;intro K hK)|(apply mq Y2 Y2 Y2 gK;intro K hK)|(apply ni Y2 Y2 Y2 Y2 (by trivial) Y7;intro K hK)|(apply qC));apply(ZY R w2.heap.size l (x,y) _ (GL.drew HR.out) J Y0).mono;rintro e w4⟨rfl,i,j⟩;have⟨m,L⟩:∃m,m=l++[(x,y)]:=⟨_,rfl⟩;rw[<-L]at i hl2;have HM:=hid L;clear L;have M:=hid i;have k0:=hid (aY j Y0 (Cv k0.out));have k2:=hid (aY j Y0 (Cv k2.out));have hz4:w3.heap.size<=w4.heap.size:=j.size;have hB:=hid (hB.out.drew.trans (j.mono Y0));clear i j s f0 z0 Z f9;go_wp2_with fail;apply(yd R w2.heap.size m _ M.out hl2).mono;rintro e Q4⟨a5,n,rfl,u,g⟩;(have k0:=hid (aY g Y0 k0.out));(have k2:=hid (aY g Y0 k2.out));have hz5:=g.size;have hB:=hid (fp hB.out g);have HO:=hid u;clear u g;have⟨s,f0⟩:=blk k0.out;have z0:=(ab.1 k0.out).1;clear f1 c1 Q3;go_upto_region 8 with fail;clear s f0;have z:(Q4.setCell ⟨w.heap.size,2,U⟩ (.slice a5 m.length n)).heap[w.heap.size]?=C (.cells #[.int .i64 r,.int .i64 t,.slice a5 m.length n,.bool o,.int .i64 a] 36 (0,0)):=by simpa using kK (o:=2) (v:=dR a5 m.length n) k0.out
 have k2:=hid (nt (p:=⟨w.heap.size,2,U⟩) (v:=.slice a5 m.length n) Y1 k2.out);have HO:=hid (HO.out.set (p:=⟨w.heap.size,2,U⟩) (by simp;omega) (.slice a5 m.length n));have hB:=hid (hB.out.trans (l2 Q4 w.heap.size 2 (.slice a5 m.length n)));have N:(Q4.setCell ⟨w.heap.size,2,U⟩ (.slice a5 m.length n)).heap.size=Q4.heap.size:=size_set _ _ _;clear k0;generalize Q4.setCell ⟨w.heap.size,2,U⟩ (.slice a5 m.length n)=F at z k2 HO hB N⊢;have k0:=hid z;clear z;have⟨s,f0⟩:=blk k0.out;have z0:=(ab.1 k0.out).1;go_upto_region 9 with fail;clear s f0;have z:(F.setCell ⟨w.heap.size,4,U⟩ (.int .i64 0)).heap[w.heap.size]?=C (.cells #[.int .i64 r,.int .i64 t,.slice a5 m.length n,.bool o,.int .i64 0] 36 (0,0)):=by simpa using kK (o:=4) k0.out
 have k2:=hid (nt (p:=⟨w.heap.size,4,U⟩) (v:=.int .i64 0) Y1 k2.out);have HO:=hid (HO.out.set (p:=⟨w.heap.size,4,U⟩) (by simp;omega) (.int .i64 0));have hB:=hid (hB.out.trans (l2 F w.heap.size 4 (.int .i64 0)));have O:(F.setCell ⟨w.heap.size,4,U⟩ (.int .i64 0)).heap.size=F.heap.size:=size_set _ _ _;clear k0;generalize F.setCell ⟨w.heap.size,4,U⟩ (.int .i64 0)=S at z k2 HO hB O⊢;have k0:=hid z;clear z;have⟨s,f0⟩:=blk k0.out;have⟨c2,f2⟩:=blk k2.out;have z2:w.heap.size+2<S.heap.size:=Y0;go_wp2;obtain rfl:=HM.out;exact dB (v:=.tuple #[.agg #[.int .i64 r,.int .i64 t,.slice a5 (l++[(x,y)]).length n,.bool o,.int .i64 0],.bool E]) (by simp[results,results146,go_sem,c2]) rfl ⟨_,_,rfl,(by repeat(first|(with_reducible exact eh Y3)|(with_reducible refine dh ?_ Y8 _)|exact eh Y3)),kj.base (base:=w4.heap.size) (by repeat(first|(with_reducible exact HO.out)|(with_reducible refine kj.set ?_ (by simp;omega) _))) Y0⟩
def XK(r t:Int)(v:Y)(l:List (Int×Int))(o:Bool)(a x y:Int)(w:V)(hv:Sl w 2 v l.length (EL.bC l).di)(Z:l.length<=100000)(u:fT ⟨r,t,l,o,a⟩=E)(M:zE (x,y)=E)(k:(l.length:Int)=r)(z:Gw w):dE aa.prog 146 #[.agg #[.int .i64 r,.int .i64 t,v,.bool o,.int .i64 a],.agg #[.int .i64 x,.int .i64 y]] w λe w'=>∃a' c,e=.returned (.tuple #[.agg #[.int .i64 r,.int .i64 t,.slice a' l.length c,.bool E,.int .i64 0],.bool E])/\cj w.heap.size w w'/\kj w' w.heap.size (.slice a' l.length c) l:=by
 have F:=hid u;have P:=hid M;obtain⟨a0,cap,rfl,-⟩:=hv.form;have N:=hid hv;have hl2:l.length<=1099511627776:=Y0;clear hv u M;go_enter aa.func146,ntmps146;go_wp2_with fail;apply(jH _ _ _ _ _ _ _ (N.out.below (dY _ _ _ _)) Y0 (z.below (dY _ _ _ _))).mono;rintro e w1⟨rfl,A⟩;rw[F.out];have⟨k0,k1,k2,Q,hB⟩:=Eo A;have R:=hid (N.out.below hB);have⟨c1,f1⟩:=blk k1;have k1:=hid k1;have k0:=hid k0;have k2:=hid k2;have hB:=hid hB;clear A;go_wp2_with fail;apply(yv _ _ _ (z.below (by repeat((with_reducible exact eh Y3))))).mono;rintro e w2⟨rfl,f⟩;rw[P.out];have G:=hid (R.out.below f);(have k0:=hid (aY f Y0 k0.out));(have k1:=hid (aY f Y0 k1.out));(have k2:=hid (aY f Y0 k2.out));have hB:=hid (fp hB.out f);have S:=f.size;clear f c1 f1;have⟨n,f0⟩:=blk k0.out;have z0:=(ab.1 k0.out).1;go_wp2_with fail;apply(np _ l _ G.out Y0).mono;rintro e w3⟨T,rfl,m,g⟩;have HR:=hid m;have⟨ga,gb,B⟩:=m.look;have Q0:=m.lt;(have k0:=hid (aY g Y0 k0.out));(have k1:=hid (aY g Y0 k1.out));(have k2:=hid (aY g Y0 k2.out));have hB:=hid (fp hB.out g);have Q1:=g.size;clear m g n f0 z0;have⟨n,f0⟩:=blk k0.out;have z0:=(ab.1 k0.out).1;have⟨c1,f1⟩:=blk k1.out;have W:=(ab.1 k1.out).1;have⟨X,f9⟩:=blk B;clear B;go_wp2_with fail;apply il (λ_=>True) (.op 0 0 (.op 1 0 (.op 2 0 (.op 3 0 (.op 4 0 (.op 5 0 (.op 6 0 (.nil)))))))) gK rfl gK gK gK (λ_ _ d _ _ h=>by cases d<;>exact h);go_wp2_with(first|(apply oU Y2 Y2 Y2 Y2;intro K hK)|(apply mq Y2 Y2 Y2 gK;intro K hK)|(apply ni Y2 Y2 Y2 Y2 (by trivial) (by(simp[*];done));intro K hK)|(apply qC));go_upto_region 7 with fail;have q:(w3.setCell ⟨w.heap.size,3,U⟩ (.bool E)).drew.heap[w.heap.size]?=C (.cells #[.int .i64 r,.int .i64 t,.slice a0 l.length cap,.bool E,.int .i64 a] 36 (0,0)):=by simpa using Cv (kK (o:=3) (v:=Value.bool E) k0.out)
 have k2:=hid (Cv (nt (p:=⟨w.heap.size,3,U⟩) (v:=.bool E) Y1 k2.out));have Q2:=hid (GL.s4 (w':=(w3.setCell ⟨w.heap.size,3,U⟩ (.bool E)).drew) HR.out (λb hb _=>heap_setCell_other w3 ⟨w.heap.size,3,U⟩ b (.bool E) (by simp;omega)));have hB:=hid ((hB.out.trans (l2 w3 w.heap.size 3 (.bool E))).drew);have I:(w3.setCell ⟨w.heap.size,3,U⟩ (.bool E)).drew.heap.size=w3.heap.size:=size_set _ _ _;clear k0 n f0 z0 X f9;generalize(w3.setCell ⟨w.heap.size,3,U⟩ (.bool E)).drew=w4 at q k2 Q2 hB I⊢;have k0:=hid q;clear q;go_wp2_with fail;apply(yd T w2.heap.size l _ Q2.out hl2).mono;rintro e Q3⟨a5,j,rfl,s,i⟩;(have k0:=hid (aY i Y0 k0.out));(have k2:=hid (aY i Y0 k2.out));have Q4:=i.size;have hB:=hid (fp hB.out i);have HO:=hid s;clear s i;have⟨n,f0⟩:=blk k0.out;have z0:=(ab.1 k0.out).1;clear f1 c1 W;go_upto_region 8 with fail;clear n f0;have q:(Q3.setCell ⟨w.heap.size,2,U⟩ (.slice a5 l.length j)).heap[w.heap.size]?=C (.cells #[.int .i64 r,.int .i64 t,.slice a5 l.length j,.bool E,.int .i64 a] 36 (0,0)):=by simpa using kK (o:=2) (v:=dR a5 l.length j) k0.out
 have k2:=hid (nt (p:=⟨w.heap.size,2,U⟩) (v:=.slice a5 l.length j) Y1 k2.out);have HO:=hid (HO.out.set (p:=⟨w.heap.size,2,U⟩) (by simp;omega) (.slice a5 l.length j));have hB:=hid (hB.out.trans (l2 Q3 w.heap.size 2 (.slice a5 l.length j)));have J:(Q3.setCell ⟨w.heap.size,2,U⟩ (.slice a5 l.length j)).heap.size=Q3.heap.size:=size_set _ _ _;clear k0;generalize Q3.setCell ⟨w.heap.size,2,U⟩ (.slice a5 l.length j)=D at q k2 HO hB J⊢;have k0:=hid q;clear q;have⟨n,f0⟩:=blk k0.out;have z0:=(ab.1 k0.out).1;go_upto_region 9 with fail;clear n f0;have q:(D.setCell ⟨w.heap.size,4,U⟩ (.int .i64 0)).heap[w.heap.size]?=C (.cells #[.int .i64 r,.int .i64 t,.slice a5 l.length j,.bool E,.int .i64 0] 36 (0,0)):=by simpa using kK (o:=4) (v:=cL .i64 0) k0.out
 have k2:=hid (nt (p:=⟨w.heap.size,4,U⟩) (v:=.int .i64 0) Y1 k2.out);have HO:=hid (HO.out.set (p:=⟨w.heap.size,4,U⟩) (by simp;omega) (.int .i64 0));have hB:=hid (hB.out.trans (l2 D w.heap.size 4 (.int .i64 0)));have L:(D.setCell ⟨w.heap.size,4,U⟩ (.int .i64 0)).heap.size=D.heap.size:=size_set _ _ _;clear k0;generalize D.setCell ⟨w.heap.size,4,U⟩ (.int .i64 0)=O at q k2 HO hB L⊢;have k0:=hid q;clear q;have⟨n,f0⟩:=blk k0.out;have⟨c2,f2⟩:=blk k2.out;have z0:w.heap.size<O.heap.size:=Y0;have z2:w.heap.size+2<O.heap.size:=Y0;go_wp2;exact dB (v:=.tuple #[.agg #[.int .i64 r,.int .i64 t,.slice a5 l.length j,.bool E,.int .i64 0],.bool E]) (by simp[results,results146,go_sem,c2]) rfl ⟨_,_,rfl,(by repeat(first|(with_reducible exact eh Y3)|(with_reducible refine dh ?_ (by(simp;omega)) _)|exact eh Y3)),kj.base (base:=w4.heap.size) (by repeat(first|(with_reducible exact HO.out)|(with_reducible refine kj.set ?_ (by simp;omega) _))) Y0⟩
def Tt:fi aa.prog 146 [.inr [.int,.int,.bC,.bool,.int],.inr [.int,.int]] (λ⟨⟨r,t,l,o,a,_⟩,⟨x,y,_⟩,_⟩K=>K (sg ⟨r,t,l,o,a⟩ (x,y)).d):=by
 rintro⟨⟨r,t,l,o,a,_⟩,⟨x,y,_⟩,_⟩K hK w T R g;replace hK:K (sg ⟨r,t,l,o,a⟩ (x,y)).d:=hK;obtain⟨v,rfl,S,J⟩:∃v,T=#[.agg #[.int .i64 r,.int .i64 t,v,.bool o,.int .i64 a],.agg #[.int .i64 x,.int .i64 y]]/\Sl w 2 v l.length (EL.bC l).di/\l.length<=1099511627776:=by cases f:T.toList with|nil=>rw[f]at R;exact R.elim|cons z rest=>rw[f]at R;match rest,R with
   |[z2],⟨⟨us,ex,hu⟩,⟨u,k,j⟩,_⟩=>
    subst ex k;obtain⟨v,e,D,L⟩:=Xx hu;have F:u.toList=[.int .i64 x,.int .i64 y]:=by generalize u.toList=q at j;match q,j with|[G,M],⟨g1,g2,_⟩=>rw[show G=_ from g1,show M=_ from g2]
    exact⟨v,bj.1 (by rw[f,show us=#[.int .i64 r,.int .i64 t,v,.bool o,.int .i64 a]from bj.1 e,show u=#[.int .i64 x,.int .i64 y]from bj.1 F]),D,L⟩
 have n:∀(N:V),cj w.heap.size w N->sg ⟨r,t,l,o,a⟩ (x,y)=⟨IW,H⟩->∃d v,nv (.tuple #[.agg #[.int .i64 0,.int .i64 0,.slice U 0 0,.bool H,.int .i64 0],.bool H])=.returned v/\K d/\cj w.heap.size w N/\∃P,frV N w.heap.size d v P/\P.Nodup:=by intro N b p;rw[p]at hK;exact⟨_,_,rfl,hK,b,[],⟨_,rfl,[],[],rfl,⟨_,rfl,[],[],rfl,⟨rfl,rfl,rfl⟩,[],[],rfl,⟨rfl,rfl,rfl⟩,[],[],rfl,⟨World.ownsRow_nil _ _ _ _,a7 _,rfl⟩,[],[],rfl,⟨rfl,rfl,rfl⟩,[],[],rfl,⟨rfl,rfl,rfl⟩,rfl⟩,[],[],rfl,⟨rfl,rfl,rfl⟩,rfl⟩,List.nodup_nil⟩
 have s:∀(N:V)(O:Option Addr)(c:Nat)(m:List (Int×Int))(A:Bool),cj w.heap.size w N->kj N w.heap.size (.slice O m.length c) m->m.length<=1099511627776->sg ⟨r,t,l,o,a⟩ (x,y)=⟨⟨r,t,m,A,0⟩,E⟩->∃d v,nv (.tuple #[.agg #[.int .i64 r,.int .i64 t,.slice O m.length c,.bool A,.int .i64 0],.bool E])=.returned v/\K d/\cj w.heap.size w N/\∃P,frV N w.heap.size d v P/\P.Nodup:=by intro N O c m A b Q I p;rw[p]at hK;exact⟨_,_,rfl,hK,b,(dR O m.length c).ownBlock.toList,⟨_,rfl,(dR O m.length c).ownBlock.toList,[],(eu _).symm,⟨_,rfl,[],_,rfl,⟨rfl,rfl,rfl⟩,[],_,rfl,⟨rfl,rfl,rfl⟩,_,[],(eu _).symm,⟨Q,I,rfl⟩,[],[],rfl,⟨rfl,rfl,rfl⟩,[],[],rfl,⟨rfl,rfl,rfl⟩,rfl⟩,[],[],rfl,⟨rfl,rfl,rfl⟩,rfl⟩,by cases(dR O m.length c).ownBlock<;>simp⟩
 cases h:fT ⟨r,t,l,o,a⟩with|false=>refine(zaC r t v l o a x y w S J h g).mono ?_;rintro e N⟨rfl,b⟩;exact n N b (by simp[sg,h])|true=>
  have B:=nu h;dsimp only at B
  cases i:zE (x,y)with|false=>refine(XJ r t v l o a x y w S J h i g).mono ?_;rintro e N⟨rfl,b⟩;exact n N b (by simp[sg,h,i])|true=>
   by_cases Zk:(l.length:Int)<r
   .refine(XL r t v l o a x y w S Y0 h i Zk g).mono ?_;rintro e N⟨O,c,rfl,b,Q⟩;exact s N O c _ o b Q (by simp;omega) (by simp[sg,h,i,Ll,Zk])
   .refine(XK r t v l o a x y w S Y0 h i Y0 g).mono ?_;rintro e N⟨O,c,rfl,b,Q⟩;exact s N O c _ E b Q Y0 (by simp[sg,h,i,Ll,Zk])
def Ly:CS:=cz [.inr [.int,.int,.bC,.bool,.int],.inr [.int,.int]] (λ⟨⟨r,t,l,o,a,_⟩,⟨x,y,_⟩,_⟩K=>K (sg ⟨r,t,l,o,a⟩ (x,y)).d)
def QW:bF aa.prog 146 Ly:=bc Tt
end
section
open Go.RowKit
namespace Ab
section
variable{P:al}{Q:Exit->Act->V->Prop}{a:Act}{w:V}{ops:Array bU}
def Cf(P:al)(c:eF)(Q:Exit->Act->V->Prop)(a:Act)(w:V):Prop:=∀(b:ag)(k:List Item)(d:List ag),b.kind=.normal->∃e f g,Q e f g/\Arrives P (lone (b.at a (.code c::k)) d w) b k d e f g
variable{c:eF}
def Cf.zoW(h:c.wp P Q a w):Cf P c Q a w:=λb k d _=>h b k d
def Cf.mono{g:Exit->Act->V->Prop}(h:Cf P c Q a w)(d:∀e a w,Q e a w->g e a w):Cf P c g a w:=λb k i f=>let⟨e,j,l,q,r⟩:=h b k i f
 ⟨e,j,l,d _ _ _ q,r⟩
def Cf.seq{c d:eF}(h:Cf P c (λe a w=>(e=.normal/\Cf P d Q a w)\/(e=.ret/\Q .ret a w)) a w):Cf P (.seq c d) Q a w:=by
 intro b k m j;have⟨e,n,w1,q,f⟩:=h b (.code d::k) m j;rcases q with⟨rfl,q⟩|⟨rfl,q⟩
 .have⟨l,o,w2,i,g⟩:=q b k m j;exact⟨l,o,w2,i,.of_steps (.head step_seq f) g⟩
 .exact⟨.ret,n,w1,q,.of_steps (.one step_seq) f⟩
def Cf.skip(h:Q .normal a w):Cf P .skip Q a w:=.zoW (wp_skip h)
def Cf.cond{c:Operand}{x y:eF}{t:Bool}(g:a.eval c=.bool t)(T:t=E->Cf P x Q a w)(hF:t=H->Cf P y Q a w):Cf P (.cond c x y) Q a w:=by intro b k i h;cases t with|true=>have⟨e,d,f,q,r⟩:=T rfl b k i h;exact⟨e,d,f,q,.of_steps (.one (step_cond g)) r⟩|false=>have⟨e,d,f,q,r⟩:=hF rfl b k i h;exact⟨e,d,f,q,.of_steps (.one (step_cond g)) r⟩
def ox(P:al)(ops:Array bU)(Q:Exit->Act->V->Prop)(l:List Nat)(a:Act)(w:V):Prop:=∀(b:ag)(k:List Item)(c:List ag),b.kind=.normal->∃e d f,Q e d f/\Arrives P (lone (b.at a (.inRegion ops l::k)) c w) b k c e d f
def Cf.region{i:Nat}(h:ox P ops Q (ku ops.size) a w):Cf P (.region i ops H) Q a w:=λb k d c=>let⟨e,f,g,q,r⟩:=h b k d c
 ⟨e,f,g,q,.of_steps (.one step_region) r⟩
def ox.zb6{l:List Nat}(h:wpOps P ops Q l a w):ox P ops Q l a w:=λb k c _=>wp_ops l a w h b k c
def ox.value{i:Nat}{r:List Nat}{o:bU}{v:Y}{w':V}(j:ops[i]?=C o)(g:o.guard=U)(l:(aG a.eval o).run P w=.ok (.value v) w')(h:ox P ops Q r (a.put o.dst v) w'):ox P ops Q (i::r) a w:=by intro b k m d;have⟨e,n,w2,q,c⟩:=h b k m d;refine⟨e,n,w2,q,.of_steps (.one (kx ?_)) c⟩;have f:=dJ b a ops i r k v;rw[j]at f;have f:(b.at a (.inRegion ops (i::r)::k)).finish v=b.at (a.put o.dst v) (.inRegion ops r::k):=f;rw[stepG_op j (by simp[ar,g]),<-f];simp[cD,l]
def ox.defer{i:Nat}{r:List Nat}{o:bU}{d:dI}{w':V}(l:ops[i]?=C o)(g:o.guard=U)(n:(aG a.eval o).run P w=.ok (.defer d) w')(h:ox P ops Q r ({a with defers:=d::a.defers}.put o.dst undef) w'):ox P ops Q (i::r) a w:=by intro b k m j;have⟨e,p,w2,q,c⟩:=h b k m j;refine⟨e,p,w2,q,.of_steps (.one (kx ?_)) c⟩;have f:=dJ b {a with defers:=d::a.defers} ops i r k undef;rw[l]at f;rw[stepG_op l (by simp[ar,g])];simp only[cD,Sem.runT_eq,n,GStep.bare_after];exact congrArg (λs=>GStep.go {frame:=s,callers:=m,status:=.running,dying:=U} w') f
def ox.send{i:Nat}{p:List Nat}{o:bU}{x y:Operand}{c t s r:Nat}{v:Y}{u:Array Y}{B:Bool}(D:ops[i]?=C o)(m:o.guard=U)(z:o.op=.send x y)(F:a.eval x=.chan (C c))(n:a.eval y=v)(G:w.heap[c]?=C (.chan t u H s r B))(d:u.size<t)(h:ox P ops Q p (a.put o.dst undef) (w.setChan c t (u.push v) H (s+1) r B)):ox P ops Q (i::p) a w:=by intro b k A j;have⟨e,I,w2,q,g⟩:=h b k A j;refine⟨e,I,w2,q,.of_steps (.one ?_) g⟩;have l:=Go.Conc.step_lone_send_room (P:=P) (fr:=b.at a (.inRegion ops (i::p)::k)) (cs:=A) (w:=w) (v:=v) (z':=.tuple #[]) (Go.Conc.stepG_comm D (by simp[ar,m]) (by simp[j]) (by simp[aG,z,F,n,Go.Conc.scase])) G d;have f:=dJ b a ops i p k undef;rw[D]at f;rw[f]at l;exact l
def ox.recv{i:Nat}{n:List Nat}{o:bU}{c u s r:Nat}{z v:Y}{t:Array Y}{y p:Bool}(A:ops[i]?=C o)(m:o.guard=U)(B:(aG a.eval o).run P w=.ok (.comm #[Go.Conc.rcase c z] E (.recv E)) w)(D:w.heap[c]?=C (.chan u t p s r y))(d:0<t.size)(F:t.getD 0 undef=v)(h:ox P ops Q n (a.put o.dst (.tuple #[v,.bool E])) (w.setChan c u (t.extract 1 t.size) p s (r+1) y)):ox P ops Q (i::n) a w:=by intro b k x j;have⟨e,G,w2,q,g⟩:=h b k x j;refine⟨e,G,w2,q,.of_steps (.one ?_) g⟩;have l:=Go.Conc.step_lone_recv_buf (fr:=b.at a (.inRegion ops (i::n)::k)) (cs:=x) E (Go.Conc.stepG_comm A (by simp[ar,m]) (by simp[j]) B) D d;have f:=dJ b a ops i n k (Go.Conc.got E (t.getD 0 undef) E);rw[A]at f;rw[f,F]at l;exact l
def ox.zu4{i:Nat}{m:List Nat}{o:bU}{c n s r:Nat}{z:Y}{u:Bool}(t:ops[i]?=C o)(l:o.guard=U)(v:(aG a.eval o).run P w=.ok (.comm #[Go.Conc.rcase c z] E (.recv E)) w)(x:w.heap[c]?=C (.chan n #[] E s r u))(h:ox P ops Q m (a.put o.dst (.tuple #[z,.bool H])) w):ox P ops Q (i::m) a w:=by intro b k p g;have⟨e,y,w2,q,d⟩:=h b k p g;refine⟨e,y,w2,q,.of_steps (.one ?_) d⟩;have j:=Go.Conc.step_lone_recv_shut (fr:=b.at a (.inRegion ops (i::m)::k)) (cs:=p) E (Go.Conc.stepG_comm t (by simp[ar,l]) (by simp[g]) v) x;have f:=dJ b a ops i m k (Go.Conc.got E z H);rw[t]at f;rw[f]at j;exact j
def zdd{fr:ag}{e:List ag}{d:dI}{ds:List dI}{g:Builtin}{b:Array ah}{h:ah}{c:Array Bool}{u:Y}{f:V}(m:fr.mode=.returning)(i:fr.defers=d::ds)(j:d.target=.builtin g b h c)(k:(invoke d.target d.args).run P w=.ok (.value u) f):step P (lone fr e w)=.next (lone {fr with defers:=ds} e f):=by have⟨t,a⟩:=d;subst j;exact kx (by simp[stepG,unwind,callDeferred,m,i,k])
def zd4(P:al)(g:dH)(R:Ending->V->Prop)(e:Exit)(a:Act)(w:V):Prop:=e=.ret/\((a.defers=[]/\∃v,(results g a.tmps).run P w=.ok v w/\R (.returned v) w)\/∃d h f t c u b,a.defers=[d]/\d.target=.builtin h f t c/\(invoke d.target d.args).run P w=.ok (.value u) b/\∃v,(results g a.tmps).run P b=.ok v b/\R (.returned v) b)
def Hn{f:bu}{fn:dH}{args:Array Y}{R:Ending->V->Prop}(g:P.funcs[f]?=C fn)(j:fn.body=C c)(h:Cf P c (zd4 P fn R) {tmps:=args++aK (fn.ntmps-args.size) undef,defers:=[]} w):dE P f args w R:=by
 intro m;have a:aF P f args .normal=({(default:ag)with fn:=f,kind:=.normal}:ag).at {tmps:=args++aK (fn.ntmps-args.size) undef,defers:=[]} [.code c]:=by simp[aF,Frame.at,g,j]
 have⟨e,y,n,q,b⟩:=h {(default:ag)with fn:=f,kind:=.normal} [] m rfl;rw[<-a]at b;obtain⟨rfl,q⟩:=q;have⟨t,s⟩:=b;rcases q with⟨l,v,r,i⟩|⟨d,z,o,A,k,u,w2,l,p,x,v,r,i⟩;.exact⟨.returned v,n,_,i,s,rfl,rfl,l,rfl,fn,g,r⟩
 .exact⟨.returned v,w2,_,i,Steps.trans s (.one (zdd rfl l p x)),rfl,rfl,rfl,rfl,fn,g,r⟩
end
def GD{cx:Cx}{β:List En}{j:Hp}{w:V}(I:ki cx β j w){k n:Nat}{Φ Ψ:Obj->Prop}{ob:Obj}(a:j[k]?=C (.x Φ))(d:β[k]?=C (.b n))(hΨ:Ψ ob)(s:∀c e f,w.heap[n]?≠C (.cells c e f)):kF cx β j w (λ_=>True) β (j.set k (.x Ψ)) {w with heap:=w.heap.setIfInBounds n ob}:=by
 have⟨o,p,q,_⟩:=I.Ds k _ _ a d;have l:=(ab.1 q).1;refine kF.upd (h':=.x Ψ) I trivial ⟨rfl,rfl,rfl,Y1,λb m g=>?_,λb⟨c,e,f,u⟩=>⟨c,e,f,by grind⟩⟩ (λi r=>⟨List.getElem?_set_ne (Ne.symm r),rfl⟩) Y8 d (by simpa using I.len) Y1 (uZ.refl _) ⟨o,ob,by simp[l],hΨ⟩ (λb m=>.inl ?_)
 .have:n≠b:=λe=>g (by rw[dK a d,e];rfl);simp[bZ this]
 .rw[dK a d];exact m
end Ab
open Go.RowKit
namespace Ab
def zqz(T:lJ)(G:bK)(c:Nat->Tr)(d:dH)(b:eF)(N k:Nat)(L:List Int)(g:Fr)(i:Hp)(K:AV->Hp->Prop):Prop:=Ah T G N [] c b g i λe f p=>match e with|.n=>False|.x _=>False|.r=>py p k λh=>match h with|.x Φ=>af (∀o,Φ o->yX L H o)<|uV p k (.x (yX L E)) λa=>Ww T f a d.results.toList λr=>K r a|_=>False
def zyR(d:Hp)(k:Nat)(e:Fr)(K:Int->Fr->Hp->Prop):Prop:=IU e 1 λc=>match c with
 |.l (.o U g)=>af (Nat.beq g k=E)<|IX e 17 c λf=>IU f 6 λb=>match b with
  |.l (.v (.int .i64 x))=>IX f 18 b λa=>py d k λh=>match h with |.x Φ=>af (∀o,Φ o->yX [] H o)<|uV d k (.x (yX [x] H)) λp=>K x a p|_=>False
  |_=>False
 |_=>False
def zo4(T:lJ)(G:bK)(q:Nat->Tr)(u:dH)(z A B m:eF)(y:List AV)(w:Hp)(K:AV->Hp->Prop):Prop:=af (eI y.length u.ntmps=E)<|CY (IV w) λN=>Ah T G N [] q z (CZ u.ntmps y) w λe s h=>match e with|.x _=>False|.r=>False|.n=>IU s 1 λc=>match c with
 |.l (.o U k)=>py w k λj=>match j with
  |.x _=>IX s 8 c λa=>Ah T G N [] q A a h λe b d=>match e with |.x _=>False|.r=>False|.n=>Ah T G N [] q B b d λe f p=>match e with|.x _=>False|.r=>False|.n=>IU f 16 λt=>match t with|.l (.v (.bool t))=>Br t (zyR p k f λx g i=>zqz T G q u m N k [x] g i K) (zqz T G q u m N k [] f p K)|_=>False
  |_=>False
 |_=>False
def zvv(b:Hp)(d:Fr)(K:Fr->Hp->Prop):Prop:=IU d 3 λc=>match c with
 |.l (.o U k)=>IX d 17 c λa=>py b k λh=>match h with
  |.x Φ=>∃l:Option Int,(∀o,Φ o->yX l.toList E o)/\match l with |some x=>IX a 18 (.t [.inl (.v (.int .i64 x)),.inl (.v (.bool E))]) λf=>uV b k (.x (yX [] E)) λp=>K f p|none=>IX a 18 (.t [.inl (.v (.int .i64 0)),.inl (.v (.bool H))]) λf=>uV b k (.x (yX [] E)) λp=>K f p
  |_=>False
 |_=>False
def zoY(T:lJ)(G:bK)(k:Nat->Tr)(i:dH)(o g:eF)(ops:Array bU)(l:List AV)(m:Hp)(K:AV->Hp->Prop):Prop:=af (eI l.length i.ntmps=E)<|CY (IV m) λN=>Ah T G N [] k o (CZ i.ntmps l) m λe j h=>match e with|.x _=>False|.r=>False|.n=>zvv h j λf a=>zqT T G ops.toList (ops.toList.drop 2) f a λb c=>Ah T G N [] k g b c λe d p=>match e with|.n=>False|.x _=>False|.r=>Ww T d p i.results.toList λr=>K r p
section
variable{P:al}{cx:Cx}{β0:List En}{hp0:Hp}{w0:V}
variable{w:V}{n:Nat}
def Zu{p:List AV}{a:Array Y}(I:ki cx β0 hp0 w)(q:IL cx β0 p a.toList)(r:p.length<=n):At cx β0 hp0 w [] (CZ n p) hp0 {tmps:=a++aK (n-a.size) undef,defers:=[]} w:=by
 have o:p.length=a.size:=by rw[q.length];simp
 refine⟨β0,I,⟨?_,λi x s=>?_⟩,rfl,⟨λk e _ c=>?_,λk b h=>?_,ao _,ao _,λ_ _ _=>rfl⟩⟩;.rw[Gp _ _ r];simp;omega
 .rcases Gn _ _ i x s with f|rfl
  .have⟨v,d,g⟩:=q.get f;have l:i<a.size:=by grind
   have:(a++aK (n-a.size) undef).getD i undef=v:=by have j:a[i]?=C v:=Y7;simp[cE,iP l,j]
   rw[this];exact g
  .trivial
 .grind
 .by_cases m:k<hp0.length;.simp_all
  .rw[CC (by simp;omega)]at h;cases h
variable{G:bK}
def exK{T:lJ}(b:eV P T)(g:Ad P G cx)(M:P.follows .mixedOrders=E){i:Nat->Tr}{d:List dI}{c:eF}{K:Xt->Fr->Hp->Prop}{Q:Exit->Act->V->Prop}{f:Fr}{p:Hp}{a:Act}(h:Ah T G hp0.length [] i c f p K)(A:At cx β0 hp0 w0 d f p a w)(j:∀e f p a w,K e f p->At cx β0 hp0 w0 d f p a w->Q (zhF e) a w):Cf P c Q a w:=by rw[Po]at h;exact Cf.zoW (Vs b g M c K Q f p a w j A h)
def Left(cx:Cx)(β0:List En)(hp0:Hp)(w0:V)(K:AV->Hp->Prop)(e:Ending)(w:V):Prop:=∃v r p bR,e=.returned v/\K r p/\AC cx bR r v/\ki cx bR p w/\Lk β0 hp0 w0 bR p w
variable{TR:Nat->Tr}
def zep{T:lJ}(S:eV P T)(hG:Ad P G cx)(hM:P.follows .mixedOrders=E){W:dH}{c:eF}{k:Nat}{L:List Int}{X:Fr}{Z:Hp}{K:AV->Hp->Prop}{d:dI}{O:Array ah}{Q:ah}{y:Array Bool}{a:Act}(h:zqz T G TR W c hp0.length k L X Z K)(hA:At cx β0 hp0 w0 [d] X Z a w)(B:β0[k]?=C (.b n))(f:k<hp0.length)(hd:d.target=.builtin .close O Q y)(m:d.args=#[.chan (C n)]):Cf P c (zd4 P W (Left cx β0 hp0 w0 K)) a w:=by apply exK S hG hM h hA;intro e D F J M g A;cases e with|n=>cases g|x id=>cases g|r=>
 refine⟨rfl,.inr ?_⟩;obtain⟨β7,I,o,p,i⟩:=A;have j:=i.ext k _ f B;have⟨q,l,g⟩:=dX.1 g;split at g
 .obtain⟨hΦ,g⟩:=aH.1 g;have⟨_,g⟩:=hX.1 g;have⟨hn,ob,z,N⟩:=I.Ds k _ _ l j;obtain⟨s,r,rfl⟩:=hΦ _ N;have R:=GD (Ψ:=yX L E) I l j ⟨s,r,rfl⟩ Y7;have⟨x,hx,v,t,u⟩:=xb S R.mI o g;refine⟨d,.close,O,Q,y,.tuple #[],_,p,hd,?_,v,u,v,x,_,β7,rfl,hx,t,R.mI,i.out R⟩;rw[hd,m];simp[invoke,builtin,run_close_open (P:=P) O Q z]
 .cases g
def zk3{T:lJ}(hT:eV P T)(hG:aR P G)(hM:P.follows .mixedOrders=E){f:bu}{fn:dH}{r0 r2 r3 Q0:eF}{J o1 M N p2:bU}{id1 id4:Nat}{j:Call}(hfn:P.funcs[f]?=C fn)(wQ:(P.funcs[f]?).map (λfn=>(fn.name== "runtime.NumGoroutine",fn.body.isNone))=C (H,H))(hB:fn.body=C (.seq r0 (.seq (.region id1 #[J,o1] H) (.seq r2 (.seq (.seq r3 (.cond (.tmp 16) (.region id4 #[M,N,p2] H) .skip)) Q0)))))(h0:J.op=.move (.tmp 1)/\J.dst=C 8/\J.guard=U)(h1:o1.op=.defer j/\o1.dst=U/\o1.guard=U)(hc:j.callee=.builtin .close/\j.args=#[.tmp 8])(g0:M.op=.move (.tmp 1)/\M.dst=C 17/\M.guard=U)(g1:N.op=.move (.tmp 6)/\N.dst=C 18/\N.guard=U)(g2:p2.op=.send (.tmp 17) (.tmp 18)/\p2.dst=U/\p2.guard=U):bF P f {S:=zo4 T G TR fn r0 r2 r3 Q0,sb:=λ_=>U}:=by
 refine⟨wQ,λxs hp K Q1 cx β w vs hI gl ha=>?_⟩;have hG:Ad P G cx:=⟨hG,.inr gl⟩;have⟨hn,Q1⟩:=aH.1 Q1;have Q1:=lY.1 Q1;rw[vd]at Q1;refine b9 (Hn hfn hB (R:=Left cx β hp w K) ?_) ?_
 .refine Cf.seq (exK hT hG hM Q1 (Zu hI ha (by simpa using hn)) ?_);intro e fr1 hp1 a1 w1 a hA1;cases e with |x id=>cases a|r=>cases a|n=>
  refine .inl ⟨rfl,?_⟩;have⟨c,O,a⟩:=oS.1 a;split at a
  .rename_i k;have⟨hb0,Q,a⟩:=dX.1 a;split at a
   .rename_i Φ0;have⟨Q2,a⟩:=iE.1 a;have p:=(bQ.1 Q).1;have⟨e0,q⟩:∃e0,β[k]?=C e0:=⟨_,aN (by rw[hI.len];exact p)⟩;obtain⟨lL,hI1,A,hd1,L⟩:=hA1;obtain⟨n,rfl⟩:∃n,e0=.b n:=by have hx:=L.ext k _ p q;cases e0 with|b n=>exact⟨n,rfl⟩|r v ver=>have⟨_,m,g,_⟩:=A.2 1 _ O;have⟨_,_,hx,_⟩:=hx;rw[g]at hx;cases hx|x=>cases hI.Ds k _ _ Q q
    have W:=L.ext k _ p q;have hv1:a1.tmps.getD 1 undef=.chan (C n):=by have⟨_,m,g,Q3⟩:=A.2 1 _ O;rw[W]at g;cases g;exact Q3
    have hcv:AC cx lL (.l (.o U k)) (.chan (C n)):=⟨rfl,n,W,rfl⟩;obtain⟨fr2,rfl,hf2,zyr⟩:=de (d:=C 8) (iE.2 ⟨Q2,rfl⟩) A hcv;refine Cf.seq (Cf.region ?_);apply ox.value (v:=.chan (C n)) (w':=w1) rfl h0.2.2 (by simp[aG,h0.1,a8,hv1]);rw[h0.2.1];have YF:8<a1.tmps.size:=by rw[<-A.1];exact Q2
    have hv8:(a1.put (C 8) (.chan (C n))).tmps.getD 8 undef=.chan (C n):=by simp[oL,tA,YF]
    apply ox.defer (d:=⟨.builtin .close j.argTypes o1.type (j.args.map fun|.const _=>E|_=>H),#[.chan (C n)]⟩) (w':=w1) rfl h1.2.2
    .simp only[aG,h1.1,resolve,hc.1];simp[hc.2,a8,hv8]
    rw[h1.2.1];apply ox.zb6;refine .inl ⟨rfl,?_⟩;have hA2:At cx β hp w [⟨.builtin .close j.argTypes o1.type (j.args.map fun|.const _=>E|_=>H),#[.chan (C n)]⟩] (fr1.set 8 (.l (.o U k))) hp1 (({a1.put (C 8) (.chan (C n))with defers:=⟨.builtin .close j.argTypes o1.type (j.args.map fun|.const _=>E|_=>H),#[.chan (C n)]⟩::(a1.put (C 8) (.chan (C n))).defers}:Act).put U undef) w1:=⟨lL,hI1,hf2,by simp[oL,hd1],L⟩;refine Cf.seq (exK hT hG hM a hA2 ?_);intro e fr3 hp3 a3 w3 D hA3;cases e with|x id=>cases D|r=>cases D|n=>refine .inl ⟨rfl,?_⟩;refine Cf.seq (Cf.seq (exK hT hG hM D hA3 ?_));intro e X hp4 a4 w4 i hA4;cases e with|x id=>cases i|r=>cases i|n=>
     refine .inl ⟨rfl,?_⟩;have⟨t,ht1,i⟩:=oS.1 i;split at i
     .rename_i t;have Q4:=I0.1 i;obtain⟨β4,I,u,Z,F⟩:=hA4;have B:=F.ext k _ p q;refine Cf.cond ((u.2 16 _ ht1).2) (λhT1=>?_) (λhF1=>?_)
      .have hp:=Q4.1 hT1;have⟨c,hc4,hp⟩:=oS.1 hp;split at hp
       .rename_i k';have⟨hkk,hp⟩:=aH.1 hp;obtain rfl:k'=k:=Nat.eq_of_beq_eq_true hkk;have⟨y,hp⟩:=iE.1 hp;have zyp:AC cx β4 (.l (.o U k')) (.chan (C n)):=⟨rfl,n,B,rfl⟩;have hv4:a4.tmps.getD 1 undef=.chan (C n):=by have⟨_,m,g,Q3⟩:=u.2 1 _ hc4;rw[B]at g;cases g;exact Q3
        obtain⟨fr5,rfl,hf5,zCM⟩:=de (d:=C 17) (iE.2 ⟨y,rfl⟩) u zyp;have⟨b,hb6,hp⟩:=oS.1 hp;split at hp
        .rename_i x;have⟨z,hp⟩:=iE.1 hp;obtain⟨fr6,rfl,hf6,zCN⟩:=de (d:=C 18) (r:=.l (.v (.int .i64 x))) (iE.2 ⟨z,rfl⟩) hf5 ⟨rfl,rfl⟩;have⟨hh,hh1,hp⟩:=dX.1 hp;split at hp
         .obtain⟨hΦ,hp⟩:=aH.1 hp;have⟨_,hp⟩:=hX.1 hp;have⟨hn4,ob,h3,h4⟩:=I.Ds k' _ _ hh1 B;obtain⟨s,r,rfl⟩:=hΦ _ h4;have ho:=GD (Ψ:=yX [x] H) I hh1 B ⟨s+1,r,rfl⟩ (by intro c e f hh;rw[h3]at hh;cases hh);have zyA:17<a4.tmps.size:=by rw[<-u.1];exact y
          have zyB:18<a4.tmps.size:=by rw[<-u.1];simpa using z
          have e17:((a4.put (C 17) (.chan (C n))).put (C 18) (.int .i64 x)).tmps.getD 17 undef=.chan (C n):=by simp[oL,cE,zyA]
          have e18:((a4.put (C 17) (.chan (C n))).put (C 18) (.int .i64 x)).tmps.getD 18 undef=.int .i64 x:=by simp[oL,tA,zyB]
          apply Cf.region;apply ox.value (v:=.chan (C n)) (w':=w4) rfl g0.2.2 (by simp[aG,g0.1,a8,hv4]);rw[g0.2.1];apply ox.value (v:=.int .i64 x) (w':=w4) rfl g1.2.2 (by simp[aG,g1.1,a8,((hf5.2 6 _ hb6).2)]);rw[g1.2.1];apply ox.send rfl g2.2.2 g2.1 e17 e18 h3 Y1;rw[g2.2.1];apply ox.zb6;refine .inl ⟨rfl,?_⟩;exact zep (d:=⟨.builtin .close j.argTypes o1.type (j.args.map fun|.const _=>E|_=>H),#[.chan (C n)]⟩) hT hG hM hp ⟨β4,ho.mI,hf6,by simp[oL,Z],F.out ho⟩ q p rfl rfl
         .cases hp
        .cases hp
       .cases hp
      .exact Cf.skip (.inl ⟨rfl,zep hT hG hM (Q4.2 hF1) ⟨β4,I,u,Z,F⟩ q p rfl rfl⟩)
     .cases i
   .cases a
  .cases a
 .rintro e w'⟨v,r,dF,bR,rfl,h4,h5,h6,h7⟩;refine⟨v,r,dF,bR,rfl,h4,h5,⟨h6,λk e he=>?_,λk b hb=>(h7.om k b hb).imp Cp id,h7.size,h7.len,λk _ hn=>(hn trivial).elim,λb hb hn=>h7.sb b hb λk=>hn k trivial⟩⟩;exact h7.ext k e (by rw[<-hI.len];exact(bQ.1 he).1) he
def zrT{m:Nat}(h:n=m+2):ku n=0::1::AT 2 m:=by subst h;rw[List.range_eq_range',qf,qf]
def zkQ{T:lJ}(hT:eV P T)(hG:aR P G)(hM:P.follows .mixedOrders=E){f:bu}{fn:dH}{r0 z:eF}{ops:Array bU}{L o1:bU}{id1:Nat}(hfn:P.funcs[f]?=C fn)(wQ:(P.funcs[f]?).map (λfn=>(fn.name== "runtime.NumGoroutine",fn.body.isNone))=C (H,H))(hB:fn.body=C (.seq r0 (.seq (.region id1 ops H) z)))(hs:ops.size=(ops.toList.drop 2).length+2)(q0:ops[0]?=C L)(h0:L.op=.move (.tmp 3)/\L.dst=C 17/\L.guard=U)(q1:ops[1]?=C o1)(h1:o1.dst=C 18/\o1.guard=U){ct:ah}(oz:o1.op=.recv ct (.tmp 17) E)(hz1:∀(a:Act)(w:V),(aG a.eval ⟨U,.recv ct (.tmp 17) E,0, "",#[],U⟩).run P w=.ok (.comm #[{chan:=a.eval (.tmp 17),send:=U,zero:=.int .i64 0}] E (.recv E)) w):bF P f {S:=zoY T G TR fn r0 z ops,sb:=λ_=>U}:=by
 have hz:∀(a:Act)(c:Nat)(w:V),a.eval (.tmp 17)=.chan (C c)->(aG a.eval o1).run P w=.ok (.comm #[Go.Conc.rcase c (.int .i64 0)] E (.recv E)) w:=by intro a c w h;have h2:=hz1 a w;rw[h]at h2;simp[aG,oz]at h2⊢;exact h2
 refine⟨wQ,λxs hp K Q0 cx β w vs hI gl ha=>?_⟩;have hG:Ad P G cx:=⟨hG,.inr gl⟩;have⟨hn,Q0⟩:=aH.1 Q0;have Q0:=lY.1 Q0;rw[vd]at Q0;refine b9 (Hn hfn hB (R:=Left cx β hp w K) ?_) ?_
 .refine Cf.seq (exK hT hG hM Q0 (Zu hI ha (by simpa using hn)) ?_);intro e fr1 hp1 a1 w1 g hA1;cases e with|x id=>cases g|r=>cases g|n=>
  refine .inl ⟨rfl,?_⟩;have⟨c,hc1,g⟩:=oS.1 g;split at g
  .rename_i k;have⟨p,g⟩:=iE.1 g;have⟨hb0,y,g⟩:=dX.1 g;split at g
   .rename_i Φ;obtain⟨l,hΦ,g⟩:=g;obtain⟨lL,I,A,M,N⟩:=hA1;have⟨n,q,B⟩:∃n,lL[k]?=C (.b n)/\a1.tmps.getD 3 undef=.chan (C n):=(A.2 3 _ hc1).2;have⟨hn1,ob,J,h4⟩:=I.Ds k _ _ y q;obtain⟨s,r,rfl⟩:=hΦ _ h4;have hcv:AC cx lL (.l (.o U k)) (.chan (C n)):=⟨rfl,n,q,rfl⟩;obtain⟨fr2,rfl,O,zyr⟩:=de (d:=C 17) (iE.2 ⟨p,rfl⟩) A hcv;have Q:17<a1.tmps.size:=by rw[<-A.1];exact p
    have Q1:(a1.put (C 17) (.chan (C n))).tmps.getD 17 undef=.chan (C n):=by simp[oL,tA,Q]
    have rest:∀(m:Fr)(u:Hp)(a3:Act)(w3:V),At cx β hp w [] m u a3 w3->(zqT T G ops.toList (ops.toList.drop 2) m u λQ2 W=>Ah T G hp.length [] TR z Q2 W λe X Q3=>match e with|.n=>False|.x _=>False|.r=>Ww T X Q3 fn.results.toList λr=>K r Q3)->ox P ops (λe a w'=>(e=.normal/\Cf P z (zd4 P fn (Left cx β hp w K)) a w')\/(e=.ret/\zd4 P fn (Left cx β hp w K) .ret a w')) (AT 2 (ops.toList.drop 2).length) a3 w3:=by intro m u a3 w3 hA3 Q4;rw[zeK]at Q4;refine ox.zb6 (zaf hT hG ?_ _ 2 m u a3 w3 rfl hA3 Q4);intro Q2 W a4 w4 hk4 hA4;refine .inl ⟨rfl,exK hT hG hM hk4 hA4 ?_⟩;intro e X Q3 a5 w5 D hA5;cases e with|n=>cases D|x id=>cases D|r=>obtain⟨β5,Z,hf5,hd5,hL5⟩:=hA5;have⟨x,hx,v,B,hv2⟩:=xb hT Z hf5 D;exact⟨rfl,.inl ⟨hd5,v,hv2,v,x,_,β5,rfl,hx,B,Z,hL5⟩⟩
    refine Cf.seq (Cf.region ?_);rw[zrT hs];apply ox.value (v:=.chan (C n)) (w':=w1) q0 h0.2.2 (by simp[aG,h0.1,a8,B]);rw[h0.2.1];cases l with|some x=>have⟨j,g⟩:=iE.1 g;have⟨_,g⟩:=hX.1 g;obtain⟨m,rfl,F,zys⟩:=de (d:=C 18) (r:=.t [.inl (.v (.int .i64 x)),.inl (.v (.bool E))]) (v:=.tuple #[.int .i64 x,.bool E]) (iE.2 ⟨j,rfl⟩) O ⟨_,rfl,⟨rfl,rfl⟩,⟨rfl,rfl⟩,aA⟩;have ho:=GD (Ψ:=yX [] E) I y q ⟨s,r+1,rfl⟩ (by intro c e f hh;rw[J]at hh;cases hh);apply ox.recv (v:=.int .i64 x) q1 h1.2 (hz _ n _ Q1) J Y1 (by simp[tA]);rw[h1.1];exact rest _ _ _ _ ⟨lL,ho.mI,F,by simp[oL,M],N.out ho⟩ g|none=>
     have⟨j,g⟩:=iE.1 g;have⟨_,g⟩:=hX.1 g;obtain⟨m,rfl,F,zys⟩:=de (d:=C 18) (r:=.t [.inl (.v (.int .i64 0)),.inl (.v (.bool H))]) (v:=.tuple #[.int .i64 0,.bool H]) (iE.2 ⟨j,rfl⟩) O ⟨_,rfl,⟨rfl,rfl⟩,⟨rfl,rfl⟩,aA⟩;have ho:=GD (Ψ:=yX [] E) (ob:=.chan 1 #[] E s r H) I y q ⟨s,r,rfl⟩ (by intro c e f hh;rw[J]at hh;cases hh);apply ox.zu4 q1 h1.2 (hz _ n _ Q1) J;rw[h1.1];have hw:({w1 with heap:=w1.heap.setIfInBounds n (.chan 1 #[] E s r H)}:V)=w1:=by
      have he:w1.heap.setIfInBounds n (.chan 1 #[] E s r H)=w1.heap:=by
       apply Array.ext_getElem?;intro i;by_cases hi:n=i;.subst hi;rw[J];simp[((ab.1 J).1)]
       .rw[bZ hi]
      rw[he]
     rw[hw]at ho;exact rest _ _ _ _ ⟨lL,ho.mI,F,by simp[oL,M],N.out ho⟩ g
   .cases g
  .cases g
 .rintro e w'⟨v,r,dF,bR,rfl,h4,h5,h6,h7⟩;refine⟨v,r,dF,bR,rfl,h4,h5,⟨h6,λk e he=>?_,λk b hb=>(h7.om k b hb).imp Cp id,h7.size,h7.len,λk _ hn=>(hn trivial).elim,λb hb hn=>h7.sb b hb λk=>hn k trivial⟩⟩;exact h7.ext k e (by rw[<-hI.len];exact(bQ.1 he).1) he
end
end Ab
open Go.RowKit
open Ab
def Nz:bK:=[(51,jI)]
def Fh:aR aa.prog Nz:=an ⟨iz,aA⟩
def wi:DA [OO]->(DV->Prop)->Prop:=λ⟨⟨e,g,f,p,h,r,i,j,k,n,s,o,q,t,u,w,m,a,x,y,b,z,A,B,N,D,O,F,G,P,I,J,L,M,c,d,_⟩,_⟩K=>K (.l (.v (.bool (C1 ⟨⟨⟨e,g,f⟩,p,h,⟨r,i,j,k,n⟩,⟨s,o,q,t⟩,⟨u,w,m,a⟩⟩,⟨⟨x,y,b⟩,z,A,⟨B,N,D,O,F⟩,⟨G,P,I,J⟩,⟨L,M,c,d⟩⟩⟩))))
def M7:fi aa.prog 121 [OO] wi:=by
 apply aV (TR:=eT) aJ au Fh (Rn.fM func121) rfl;dsimp only[DA,HL,Sh.T];rintro⟨⟨e,g,f,p,i,r,j,k,l,n,s,o,q,t,u,v,m,a,w,x,b,y,z,A,B,N,D,O,F,G,P,I,J,L,c,d,_⟩,_⟩K hK _;dsimp only[wi]at hK;repeat'(conv=>whnf);first|apply U0;exact gS|apply gU;exact gA|refine gB ?_ ?_<;>intro M h<;>try exact bG
 all_goals(apply gI hK;repeat' first|exact gR|apply U0);simp_all[C1]
def DD:CS:=cz [OO] wi
def JL:bF aa.prog 121 DD:=bc M7
def zf1:bK:=[(147,G7)]
def Yb:aR aa.prog zf1:=an ⟨MJ,aA⟩
def zeT:DA [.inr [.bool,.bool,.bool,.bool],.inl .int]->(DV->Prop)->Prop:=λ⟨⟨f,e,m,b,_⟩,c,_⟩K=>af (0<=c/\c<=3)<|K (.a (UL.d (S9 ⟨f,e,m,b⟩ c)))
def zfR:fi aa.prog 124 [.inr [.bool,.bool,.bool,.bool],.inl .int] zeT:=by apply aV (TR:=eT) aJ au Yb (Rn.fM func124) rfl;dsimp only[DA,HL,Sh.T];rintro⟨⟨d,e,m,b,_⟩,c,_⟩K⟨h,hK⟩_;have h:0<=c/\c<=3:=h;have hK:=hK;obtain⟨q,rfl⟩:∃q:Fin 4,(q.val:Int)=c:=⟨⟨c.toNat,Y0⟩,by simp;omega⟩;unfold S9 at hK;rw[<-zre q,<-zrd q]at hK;exact gW
def zek:CS:=cz [.inr [.bool,.bool,.bool,.bool],.inl .int] zeT
def zco:bF aa.prog 124 zek:=bc zfR
def sqL:eF->eF|.seq a _=>a|c=>c
def sqR:eF->eF|.seq _ b=>b|c=>c
def rgO:eF->Array bU|.region _ o _=>o|_=>#[]
def bdC(f:dH):eF:=match f.body with|some c=>c|none=>.skip
def DU:bK:=[(144,Hb)]
def Kq:aR aa.prog DU:=an ⟨MN,aA⟩
def LA:CS:={S:=zo4 fQ DU eT f122 (sqL (bdC f122)) (sqL (sqR (sqR (bdC f122)))) (sqL (sqL (sqR (sqR (sqR (bdC f122)))))) (sqR (sqR (sqR (sqR (bdC f122))))),sb:=λ_=>U}
def QY:bF aa.prog 122 LA:=zk3 aJ Kq au (Rn.fM func122) gK rfl ⟨rfl,rfl,rfl⟩ ⟨rfl,rfl,rfl⟩ ⟨rfl,rfl⟩ ⟨rfl,rfl,rfl⟩ ⟨rfl,rfl,rfl⟩ ⟨rfl,rfl,rfl⟩
def Qf:bK:=[(145,Ha),(146,Ly)]
def TY:aR aa.prog Qf:=an ⟨MM,QW,aA⟩
def ZA:CS:={S:=zoY fQ Qf eT f123 (sqL (bdC f123)) (sqR (sqR (bdC f123))) (rgO (sqL (sqR (bdC f123)))),sb:=λ_=>U}
def zaI:bF aa.prog 123 ZA:=zkQ aJ TY au (Rn.fM func123) gK rfl rfl rfl ⟨rfl,rfl,rfl⟩ rfl ⟨rfl,rfl⟩ rfl (by simp_all[aG])
end
section
open Go.RowKit
namespace Ab
def zbJ:Nat->(List Y->List LV->Prop)->Prop|0,K=>K [] []|n+1,K=>∀v,zbJ n λr x=>K (v::r) (.v v::x)
def Xs:∀{n:Nat}{K:List Y->List LV->Prop},zbJ n K->∀u:List Y,u.length=n->K u (u.map LV.v)
 |0,_,h,u,l=>by cases u with|nil=>exact h|cons _ _=>cases l
 |n+1,_,h,u,l=>by cases u with|nil=>cases l|cons v u=>exact Xs (h v) u Y7
variable{K:List Y->List LV->Prop}
def zug(h:K [] []):zbJ 0 K:=h
def zyO(h:∀b c d e f g i a:Y,K [b,c,d,e,f,g,i,a] [.v b,.v c,.v d,.v e,.v f,.v g,.v i,.v a]):zbJ 8 K:=h
def zu0(h:∀g i j k l m n b c o d e f a:Y,K [g,i,j,k,l,m,n,b,c,o,d,e,f,a] [.v g,.v i,.v j,.v k,.v l,.v m,.v n,.v b,.v c,.v o,.v d,.v e,.v f,.v a]):zbJ 14 K:=h
def Wm:List LV->List LV->(List LV->Prop)->Prop|[],y,K=>K y|x::xs,y,K=>Wm xs y λr=>K (x::r)
def AA:∀{a y:List LV}{K:List LV->Prop},Wm a y K↔K (a++y)|[],_,_=>Iff.rfl|x::a,y,K=>by simp[Wm,AA,List.cons_append]
def zuP(n m:Nat)(f x:List LV)(K:List DL->Prop)(r:AV)(hp:Hp):Prop:=match r with|.a cs=>F4 cs n λc=>af (c=f)<|FY cs n λe=>F4 e m λb=>FY e m λg=>af (g=x)<|∃d,MC hp (.a b) (.a d)/\K d|_=>False
def Ob(P:al)(f:bu)(n:Nat)(c:List Sh)(a:Nat)(s:List (Sh⊕List Sh))(S:HL c->DA s->(List DL->Prop)->Prop):Prop:=∀x y K,S x y K->∀(w:V)(b g u r:List Y),b.length=n->u.length=a->(∀v∈b,v.oneCell'=E)->(∀v∈u,v.oneCell'=E)->SC w c x g->rdA w s y r->Gw w->dE P f (.agg (b++(g++u)).toArray::r).toArray w λe h=>∃d i,e=.returned (.agg (b++(i++u)).toArray)/\K d/\cj w.heap.size w h/\∃j,CU h w.heap.size d i j/\j.Nodup
def WK(n:Nat)(g:List Sh)(b:Nat)(s:List (Sh⊕List Sh))(S:HL g→DA s→(List DL→Prop)→Prop):CS:=
  { S:=fun i hp K=>match i with|.a cs::rest=>F4 cs n fun c=>FY cs n fun r=>F4 r g.length fun e=>FY r g.length fun h=>OJ h b<|zbB hp g e fun x=>Ae hp s rest fun y=>S x y fun d=>Zm hp d fun j p=>Wm j h fun q=>Wm c q fun f=>K (.a f) p|_=>False
    sb:=fun _=>C []}
section
variable{P:al}{cx:Cx}{β:List En}{hp:Hp}{w:V}
def Jh:∀{a b:List Y},gi cx β (a.map LV.v) b->b=a|[],[],_=>rfl|u::a,v::b,h=>by rw[(h.1.2),Jh h.2]|[],_::_,h=>h.elim|_::_,[],h=>h.elim
def Qb{T:lJ}{G:bK}{TR:Nat->Tr}{f:bu}{fn:dH}{n F:Nat}{ss:List Sh}{sig:List (Sh⊕List Sh)}{S:HL ss->DA sig->(List DL->Prop)->Prop}(W0:List Nat)(hT:eV P T)(hM:P.follows .mixedOrders=E)(hG:aR P G)(m:P.funcs[f]?=C fn)(hn:eI (sig.length+1) fn.ntmps=E)(h:∀(x:HL ss)(y:DA sig)(K:List DL->Prop),S x y K->bds ss x->bdA sig y->zbJ n λ_ x0=>zbJ F λ_ Q=>Zi ss x λc=>ta sig y λys=>Wm c Q λq=>Wm x0 q λL=>s8 T G 0 W0 TR fn (.a L::ys) [] (zuP n ss.length x0 Q K)):Ob P f n ss F sig S:=by intro x y K M w u0 us l rest o p z A hx N O;have⟨B,Q0⟩:=Xi (β:=[]) hx;have⟨D,Q1⟩:=vc (β:=[]) N;have hI:ki ⟨w,[]⟩ [] [] w:=⟨uO.refl _ _,rfl,λk t e h=>by simp at h,λi k b h=>by simp[cN]at h⟩;have R:=AA.1 (AA.1 (mm.1 (Jm.1 (Xs (Xs (h x y K M B D) u0 o) l p))));have j:IL ⟨w,[]⟩ [] (.a (u0.map LV.v++(zbD ss x++l.map LV.v))::IT sig y) ((nU (u0++(us++l)).toArray::rest).toArray).toList:=⟨⟨_,rfl,gi.append (gi.WJ z) (gi.append Q0 (gi.WJ A))⟩,Q1⟩;apply b9 (jx hT hM ⟨hG,.inr ⟨O,Gm.nil⟩⟩ m hI j (by rw[aW,oR];exact hn) R);rintro e w'⟨v,r,dF,bR,rfl,g,hr,I,_⟩;cases r with
 |a cs=>
  have⟨_,g⟩:=sW.1 g;have⟨k1,g⟩:=aH.1 g;have⟨_,g⟩:=sR.1 g;have⟨_,g⟩:=sW.1 g;have⟨_,g⟩:=sR.1 g;have⟨J,d,k3,Q2⟩:=aH.1 g;rw[jX]at J;obtain⟨u,rfl,hu⟩:=hr;have Q3:=Jh (k1▸hu.take n);have W:=Jh (J▸hu.drop (n+ss.length));have X:AC ⟨w,[]⟩ bR (.a ((cs.drop n).take ss.length)) (.agg ((u.toList.drop n).take ss.length).toArray):=⟨_,rfl,by simpa using(hu.drop n).take ss.length⟩;have⟨bs,⟨uz,Q4,Z⟩,h5⟩:=UX I X k3;obtain rfl:((u.toList.drop n).take ss.length).toArray=uz:=by injection Q4
  refine⟨d,(u.toList.drop n).take ss.length,?_,Q2,⟨I.kp.os,I.kp.tape,I.kp.output,I.kp.size,λb hb=>I.kp.block b hb Y1⟩,bs,Z,h5⟩;have s:u.toList=u0++((u.toList.drop n).take ss.length++l):=by rw[<-Q3,<-W,<-jX,iV,iV]
  rw[<-s]|_=>cases g
def zeC{f:bu}{n m:Nat}{M:List Sh}{N:List (Sh⊕List Sh)}{S:HL M->DA N->(List DL->Prop)->Prop}(j:(P.funcs[f]?).map (λfn=>(fn.name== "runtime.NumGoroutine",fn.body.isNone))=C (H,H))(h:Ob P f n M m N S):bF P f (WK n M m N S):=by
 refine⟨j,λxs hp K b cx β w Z T gl W=>?_⟩;unfold WK at b;dsimp only at b;split at b
 .rename_i cs rest;have⟨g1,b⟩:=sW.1 b;have⟨g2,b⟩:=sR.1 b;have⟨g3,b⟩:=sW.1 b;have⟨g4,b⟩:=sR.1 b;have⟨g5,b⟩:=AH.1 b;rw[jX]at g5;simp[iy]at g3 g4 g5;have⟨X,vr,g⟩:∃X vr,Z.toList=X::vr:=by cases R:Z.toList with|nil=>rw[R]at W;cases W|cons X vr=>exact⟨X,vr,rfl⟩
  rw[g]at W;obtain⟨⟨u,rfl,Q⟩,c⟩:=W;have⟨x,o,p⟩:=zdN T ((Q.drop n).take M.length) b;have⟨y,t,A⟩:=Lf T c o;have G:=Q.length;have s:u.toList=u.toList.take n++((u.toList.drop n).take M.length++u.toList.drop (n+M.length)):=by rw[<-jX,iV,iV]
  have i:Z=(nU (u.toList.take n++((u.toList.drop n).take M.length++u.toList.drop (n+M.length))).toArray::vr).toArray:=by apply bj.1;rw[g,<-s]
  rw[i];apply b9 (h x y _ t w (u.toList.take n) _ (u.toList.drop (n+M.length)) vr (by rw[da];omega) (by rw[iy];omega) (λv R=>Q.one v (List.mem_of_mem_take R)) (λv R=>Q.one v (List.mem_of_mem_drop R)) p A (gl.1.s4 gl.2 T.kp));rintro e w'⟨d,ud,rfl,k1,B,bs,I,k3⟩;obtain⟨r,O,bR,k,D,l⟩:=zdU (d:=.a d) (K:=λr O=>match r with|.a rc=>Wm rc ((cs.drop n).drop M.length) λq=>Wm (cs.take n) q λJ=>K (.a J) O|_=>False) T B ⟨_,rfl,I⟩ k3 k1
  cases r with|a rc=>have⟨L,z,F⟩:=D;injection z with z;subst z;have k:=AA.1 (AA.1 k);rw[jX]at k;exact⟨_,_,O,bR,rfl,k,⟨_,rfl,gi.append ((Q.take n).ext l.ext) (gi.append F ((Q.drop (n+M.length)).ext l.ext))⟩,l⟩|_=>cases k
 .cases b
end
end Ab
open Go.RowKit
open Ab
def Ud:bK:=[]
def KJ:aR aa.prog Ud:=an trivial
def Mj:DA [.inl .int]->(DV->Prop)->Prop:=λ⟨n,_⟩K=>af (5<=n/\n<=8)<|K (.l (.v (.int .i64 (pw n))))
def TH:fi aa.prog 209 [.inl .int] Mj:=by apply aV (TR:=eT) aJ au KJ (Rn.fM func209) rfl;rintro⟨(n:Int),_⟩K⟨a,hK⟩_;have a:5<=n/\n<=8:=a;have c:n=5\/n=6\/n=7\/n=8:=Y0;rcases c with rfl|rfl|rfl|rfl;all_goals
 repeat'(conv=>whnf);first|apply U0;exact gS|apply gB<;>intro b h<;>try exact bG
 apply dt.it 9;(repeat'((conv=>whnf);first|apply U0;exact gS|apply gU;exact gA));all_goals exact gF hK
def LN:CS:=cz [.inl .int] Mj
def Re:bF aa.prog 209 LN:=bc TH
def Ye:bK:=[(209,LN)]
def NX:aR aa.prog Ye:=an ⟨Re,aA⟩
def QG:DA [.inr [.int,.int,.int],.inl .int]->(DV->Prop)->Prop:=λ⟨⟨f,a,c,_⟩,b,_⟩K=>af (5<=f/\f<=8)<|af (0<=b)<|K (.l (.v (.int .i64 (b%pw f))))
def X2:fi aa.prog 178 [.inr [.int,.int,.int],.inl .int] QG:=by apply aV (TR:=eT) aJ au NX (Rn.fM func178) rfl;dsimp only[DA,HL,Sh.T];rintro⟨⟨f,c,d,_⟩,b,_⟩K⟨h,a,hK⟩_;have w:=U3 f;exact gW
def P2:CS:=cz [.inr [.int,.int,.int],.inl .int] QG
def Tf:bF aa.prog 178 P2:=bc X2
def Ub:bK:=[]
def KH:aR aa.prog Ub:=an trivial
def Bb:DA [.inr [.int,.int,.int],.inr [.int,.int,.int]]->(DV->Prop)->Prop:=λ⟨⟨c,d,e,_⟩,⟨a,b,f,_⟩,_⟩K=>K (.l (.v (.int .i64 (sc ⟨c,d,e⟩ ⟨a,b,f⟩))))
def TF:fi aa.prog 179 [.inr [.int,.int,.int],.inr [.int,.int,.int]] Bb:=by
 apply aV (TR:=eT) aJ au KH (Rn.fM func179) rfl;dsimp only[DA,HL,Sh.T];rintro⟨⟨c,d,g,_⟩,⟨a,b,f,_⟩,_⟩K hK _;dsimp only[Bb]at hK;repeat'(conv=>whnf);first|apply U0;exact gS|refine gB ?_ ?_<;>intro e h<;>try exact bG
 all_goals(apply gI hK;repeat' first|exact gR|apply U0);clear hK;simp_all[sc]
def LM:CS:=cz [.inr [.int,.int,.int],.inr [.int,.int,.int]] Bb
def Rd:bF aa.prog 179 LM:=bc TF
def zdQ(g:Int):Prop:=g=-1\/(0<=g/\g<=255)
def zcr(a b:Fmt):sc a b=sc b a:=by unfold sc;grind
def zu2{a b g:Int}(e:5<=a/\a<=8)(d:5<=b/\b<=8):g%pw b%pw a=g%pw (kG a b):=by have h:a=5\/a=6\/a=7\/a=8:=Y0;have c:b=5\/b=6\/b=7\/b=8:=Y0;grind[pw,kG]
def NW:bK:=[(176,LK),(178,P2),(179,LM),(177,LI)]
def FG:aR aa.prog NW:=an ⟨Rb,Tf,Rd,Q9,aA⟩
def Sw:Nat->Tr:=λn=>match n with|4=>iu [0,0,1,0,2,0,3,0,4,0,5,0,8,0,9,0,10,0] (.iY 6 1 (.iY 7 1 (.iY 11 1 (.op 12 0 (.iY 13 1 (iu [14,0,15,0,16,0,17,1,18,1,19,2] .nil) 17 1 (iu [13,1,14,1,15,0,16,0,18,1,19,2] .nil))) 17 1 (iu [11,1,12,1,13,1,14,1,15,0,16,0,18,1,19,2] .nil)) 17 1 (iu [7,1,11,1,12,1,13,1,14,1,15,0,16,0,18,1,19,2] .nil)) 17 1 (iu [6,1,7,1,11,1,12,1,13,1,14,1,15,0,16,0,18,1,19,2] .nil))|_=>.nil
def Np:Ob aa.prog 138 0 [.int,.int,.int,.int,.int,.int,.int,.bC,.bool,.int] 8 [.inr [.int,.int,.int],.inl .int] (λ⟨c,i,w,p,z,j,rt,k,x,l,_⟩⟨⟨fb2,h,f,_⟩,g,_⟩K=>af (fT ⟨j,rt,k,x,l⟩=E)<|af (5<=c/\c<=8)<|af (5<=fb2/\fb2<=8)<|af (zdQ g)<|K (([.v (.int .i64 c),.v (.int .i64 i),.v (.int .i64 w),.v (.int .i64 p),.v (.int .i64 z)]:List DL)++z7.d (ns ⟨j,rt,k,x,l⟩ ⟨c,i,w⟩ ⟨fb2,h,f⟩ g))):=by
 apply Qb (TR:=Sw) [] aJ au FG (Rn.fM func138) rfl;rintro⟨c,i,w,p,z,⟨j,rt,k,x,l,_⟩⟩⟨⟨fb2,(h:Int),(f:Int),_⟩,(g:Int),_⟩K⟨y,m,o,n,hK⟩_ _;refine zug (zyO λA B D F G I J u=>?_);have hK:K (([.v (.int .i64 c),.v (.int .i64 i),.v (.int .i64 w),.v (.int .i64 p),.v (.int .i64 z)]:List DL)++z7.d (ns _ _ _ g)):=hK;have y:fT _=E:=y;have m:5<=c/\c<=8:=m;have o:5<=fb2/\fb2<=8:=o;have n:g=-1\/(0<=g/\g<=255):=n;have q:=(nu y).2.2.2.1;dsimp only at q;have w1:=U3 c;have w2:=U3 fb2;rcases n with rfl|n
 .rw[show ns _ _ _ (-1)=Av _ from rfl]at hK;exact gWf
 .have t:0<=g%pw fb2:=gN _ Y0;have e:ns ⟨j,rt,k,x,l⟩ ⟨c,i,w⟩ ⟨fb2,h,f⟩ g=(sg ⟨j,rt,k,x,l⟩ (g%pw fb2%pw c,sc ⟨fb2,h,f⟩ ⟨c,i,w⟩)).r:=by have s:=Xb (a:=⟨c,i,w⟩) (b:=⟨fb2,h,f⟩) n;rw[zu2 m o,zcr];unfold ns sg;rw[if_neg Y0,if_pos (by simp only[y,Bool.true_and];exact s)];rfl
  rw[e]at hK;exact gWf
def DO:CS:=WK 0 [.int,.int,.int,.int,.int,.int,.int,.bC,.bool,.int] 8 [.inr [.int,.int,.int],.inl .int] (λ⟨b,e,j,p,l,r,rt,h,k,i,_⟩⟨⟨f,c,a,_⟩,g,_⟩K=>af (fT ⟨r,rt,h,k,i⟩=E)<|af (5<=b/\b<=8)<|af (5<=f/\f<=8)<|af (zdQ g)<|K (([.v (.int .i64 b),.v (.int .i64 e),.v (.int .i64 j),.v (.int .i64 p),.v (.int .i64 l)]:List DL)++z7.d (ns ⟨r,rt,h,k,i⟩ ⟨b,e,j⟩ ⟨f,c,a⟩ g)))
def JS:bF aa.prog 138 DO:=zeC gK Np
def Sn:bK:=[(95,tF),(175,Hg)]
def Ix:aR aa.prog Sn:=an ⟨qH,MS,aA⟩
def UD:Nat->Tr:=λn=>match n with|1=>iu [0,0,1,0,2,0,4,0,3,1,5,1,6,1,7,1,8,2] .nil|_=>.nil
def RK:Ob aa.prog 137 14 [.bool,.bool,.bool,.bool] 0 [.inl .int] (λ⟨g,b,m,a,_⟩⟨c,_⟩K=>af (0<=c/\c<=3)<|K (UL.d (S9 ⟨g,b,m,a⟩ c))):=by apply Qb (TR:=UD) [] aJ au Ix (Rn.fM func137) rfl;rintro⟨g,b,m,a,_⟩⟨(c:Int),_⟩K⟨h,hK⟩_ _;refine zu0 λl n o p q r s e f t i j k v=>zug ?_;have hK:=hK;have h:0<=c/\c<=3:=h;unfold S9 at hK;rw[show c%2=c/1%2 by simp]at hK;exact gW
def Hi:CS:=WK 14 [.bool,.bool,.bool,.bool] 0 [.inl .int] (λ⟨e,b,m,a,_⟩⟨c,_⟩K=>af (0<=c/\c<=3)<|K (UL.d (S9 ⟨e,b,m,a⟩ c)))
def MV:bF aa.prog 137 Hi:=zeC gK RK
def Uc:bK:=[(113,rA),(136,LL),(138,DO),(137,Hi)]
def KI:aR aa.prog Uc:=an ⟨o9,Rc,JS,MV,aA⟩
def Yy:Nat->Tr:=λn=>match n with|7=>iu [0,0,1,0,2,0,3,0,5,0,6,0,7,0,4,1,8,1,9,2] .nil|8=>iu [0,0,1,0,2,0,3,0,4,0,6,0,7,0,8,0,5,1,9,1,10,2] .nil|_=>.nil
def zaZ:DA [OO]->(DV->Prop)->Prop:=λ⟨⟨h,i,f,p,j,r,k,l,n,o,s,q,t,u,v,w,m,b,x,y,c,z,A,B,N,D,O,F,G,P,I,J,L,M,e,g,_⟩,_⟩K=>af (C1 ⟨⟨⟨h,i,f⟩,p,j,⟨r,k,l,n,o⟩,⟨s,q,t,u⟩,⟨v,w,m,b⟩⟩,⟨⟨x,y,c⟩,z,A,⟨B,N,D,O,F⟩,⟨G,P,I,J⟩,⟨L,M,e,g⟩⟩⟩=E)<|K (.a (YE.d (wX ⟨⟨⟨h,i,f⟩,p,j,⟨r,k,l,n,o⟩,⟨s,q,t,u⟩,⟨v,w,m,b⟩⟩,⟨⟨x,y,c⟩,z,A,⟨B,N,D,O,F⟩,⟨G,P,I,J⟩,⟨L,M,e,g⟩⟩⟩)))
def TG:fi aa.prog 114 [OO] zaZ:=by
 apply aV (TR:=Yy) aJ au KI (Rn.fM func114) rfl;dsimp only[DA,HL,Sh.T];rintro⟨⟨q,r,f,z,v,A,B,w,a,D,e,s,g,i,d,F,m,n,t,u,b,G,x,Q0,I,y,J,L,j,c,k,l,M,N,o,p,_⟩,_⟩K⟨hv,hK⟩⟨⟨_,_,_,_,_,_,_,h1,_,_,_,h2,_,_,_,_,_,_,_,_,_,_,_,_,_,h3,_,_,_,h4,_⟩,_⟩;have hK:=hK;have h1:=gl w h1;have h2:=gl s h2;have h3:=gl y h3;have h4:=gl c h4;have⟨Q,R⟩:=Xv hv;dsimp only at Q R;have⟨a1,a2,a3,a4,a5⟩:=du Q;have⟨O,S,Q1,Q2,P⟩:=du R;dsimp only at a1 a2 a3 a4 a5 O S Q1 Q2 P;have fa:=(x5 a1).1;have W:=(x5 O).1;dsimp only at fa W;have X:zdQ (fI ⟨e,s,g,i⟩).2:=xy a5;have Q3:zdQ (fI ⟨j,c,k,l⟩).2:=xy P;have Z:eL ⟨⟨q,r,f⟩,z,v,⟨A,B,w,a,D⟩,⟨(fI ⟨e,s,g,i⟩).1.bS,(fI ⟨e,s,g,i⟩).1.items,(fI ⟨e,s,g,i⟩).1.shift,(fI ⟨e,s,g,i⟩).1.left⟩,⟨d,F,m,n⟩⟩=E:=hU a1 a2 a3 a4 (E1 a5);have qb:eL ⟨⟨t,u,b⟩,G,x,⟨Q0,I,y,J,L⟩,⟨(fI ⟨j,c,k,l⟩).1.bS,(fI ⟨j,c,k,l⟩).1.items,(fI ⟨j,c,k,l⟩).1.shift,(fI ⟨j,c,k,l⟩).1.left⟩,⟨M,N,o,p⟩⟩=E:=hU O S Q1 Q2 (E1 P);rw[show wX ⟨⟨⟨q,r,f⟩,z,v,⟨A,B,w,a,D⟩,⟨e,s,g,i⟩,⟨d,F,m,n⟩⟩,⟨⟨t,u,b⟩,G,x,⟨Q0,I,y,J,L⟩,⟨j,c,k,l⟩,⟨M,N,o,p⟩⟩⟩=⟨⟨⟨q,r,f⟩,z,v,ns ⟨A,B,w,a,D⟩ ⟨q,r,f⟩ ⟨t,u,b⟩ (fI ⟨j,c,k,l⟩).2,(fI ⟨e,s,g,i⟩).1,S9 ⟨d,F,m,n⟩ x⟩,⟨⟨t,u,b⟩,G,x,ns ⟨Q0,I,y,J,L⟩ ⟨t,u,b⟩ ⟨q,r,f⟩ (fI ⟨e,s,g,i⟩).2,(fI ⟨j,c,k,l⟩).1,S9 ⟨M,N,o,p⟩ v⟩⟩from rfl]at hK;repeat'(conv=>whnf);first|apply U0;exact gS|apply U1|apply gB<;>intro hb h<;>try exact bG
 all_goals(apply gI hK;repeat' first|exact gR|apply U0)
def zuC:∀c:Fin 16,aD.wrap (aS aD.bits (c.val:Int)|||aS aD.bits 2).toNat=vM (c.val:Int):=by decide+kernel
def zyf{c:Int}(h:0<=c/\c<=15):aD.wrap (aS aD.bits c|||aS aD.bits 2).toNat=vM c:=by obtain⟨q,rfl⟩:∃q:Fin 16,(q.val:Int)=c:=⟨⟨c.toNat,Y0⟩,by simp;omega⟩;exact zuC q
def Kd:bK:=[(63,kO),(80,sK),(81,ma)]
def C8:aR aa.prog Kd:=an ⟨kD,rV,lG,aA⟩
def tT:DA [lN,.inl .bn]->(DV->Prop)->Prop:=λ⟨⟨f,b,n,p,o,r,rt,c,t,e,s,u,v,g,w,h,m,a,q,i,j,k,_⟩,l,_⟩K=>K (dZ ⟨⟨⟨f,b,n⟩,p,o,⟨r,rt,c,t,e⟩,⟨s,u,v,g⟩,⟨w,h,m,a⟩⟩,q,i,j,k⟩ l).d
def JW:fi aa.prog 60 [lN,.inl .bn] tT:=by
 apply aV (TR:=eT) aJ au C8 (Rn.fM func60) rfl;dsimp only[DA,HL,Sh.T];rintro⟨⟨f,c,t,p,x,d,rt,r,y,g,s,A,B,i,D,j,m,a,b,q,k,n,_⟩,l,_⟩K hK⟨⟨-,-,-,-,-,-,-,L,-,-,-,M,-,-,-,-,-,-,h3,h4,-⟩,h5,-⟩;dsimp only[tT]at hK;replace h3:=gl b h3;replace h4:=gl q h4;replace h5:=gl l h5;by_cases G:eR ⟨⟨⟨f,c,t⟩,p,x,⟨d,rt,r,y,g⟩,⟨s,A,B,i⟩,⟨D,j,m,a⟩⟩,b,q,k,n⟩=E/\iw l=E/\q.length+l.length<=32
 .have⟨v,w,I⟩:=G;have e:dZ ⟨⟨⟨f,c,t⟩,p,x,⟨d,rt,r,y,g⟩,⟨s,A,B,i⟩,⟨D,j,m,a⟩⟩,b,q,k,n⟩ l=⟨⟨⟨⟨f,c,t⟩,if q++l=[]then p else vM p,x,⟨d,rt,r,y,g⟩,⟨s,A,B,i⟩,⟨D,j,m,a⟩⟩,b,q++l,k,n⟩,E⟩:=by unfold dZ;rw[if_pos ⟨v,w,I⟩]
  rw[e]at hK;have o:=zyf ((du (dw v).1).2.1);by_cases F:q++l=[]
  .have z:(q++l).length=0:=by rw[F];rfl
   rw[if_pos F]at hK;repeat'(conv=>whnf);first|apply U0;exact gS|(apply na;focus(simp[eq_self,v,w];done))|refine gB ?_ ?_<;>intro o h<;>try exact bG
   all_goals exact gF hK
  .have z:=Nat.pos_of_ne_zero λu=>F (cq u);rw[if_neg F,<-o]at hK;repeat'(conv=>whnf);first|apply U0;exact gS|(apply na;focus(simp[eq_self,v,w];done))|refine gB ?_ ?_<;>intro o h<;>try exact bG
   all_goals exact gF hK
 .have e:dZ ⟨⟨⟨f,c,t⟩,p,x,⟨d,rt,r,y,g⟩,⟨s,A,B,i⟩,⟨D,j,m,a⟩⟩,b,q,k,n⟩ l=⟨FT,H⟩:=by unfold dZ;rw[if_neg G]
  rw[e]at hK;cases v:eR ⟨⟨⟨f,c,t⟩,p,x,⟨d,rt,r,y,g⟩,⟨s,A,B,i⟩,⟨D,j,m,a⟩⟩,b,q,k,n⟩<;>cases w:iw l;all_goals
   simp[v,w,true_and,false_and,and_false,bt,not_false_eq_true]at G;repeat'(conv=>whnf);first|apply U0;exact gS|apply gU;exact gA|(apply qM;focus(simp only[gQ,eq_self,v,w];done))|(apply na;focus(simp only[gQ,eq_self,v,w];done))|refine gB ?_ ?_<;>intro o h<;>try exact bG
   all_goals exact gF hK
def Bt:CS:=cz [lN,.inl .bn] tT
def HG:bF aa.prog 60 Bt:=bc JW
def Kr:bK:=[(70,nD),(94,vk),(92,rB),(95,tF)]
def Dj:aR aa.prog Kr:=an ⟨nN,tR,pd,qH,aA⟩
def uf:DA [lN,.inl .bn]->(DV->Prop)->Prop:=λ⟨⟨f,b,n,p,o,r,rt,c,t,e,s,u,v,g,w,h,m,a,q,i,j,k,_⟩,l,_⟩K=>K (dZ ⟨⟨⟨f,b,n⟩,p,o,⟨r,rt,c,t,e⟩,⟨s,u,v,g⟩,⟨w,h,m,a⟩⟩,q,i,j,k⟩ l).d
def J7:fi aa.prog 67 [lN,.inl .bn] uf:=by
 apply aV (TR:=eT) aJ au Dj (Rn.fM func67) rfl;dsimp only[DA,HL,Sh.T];rintro⟨⟨f,i,y,a,B,j,rt,r,D,k,s,A,F,n,G,o,m,b,d,q,t,u,_⟩,l,_⟩K hK⟨⟨-,-,-,-,-,-,-,N,-,-,-,O,-,-,-,-,-,-,P,Q,-⟩,R,-⟩;dsimp only[uf]at hK;have N:=gl r N;have O:=gl A O;have P:=gl d P;have Q:=gl q Q;have R:=gl l R;by_cases M:eR ⟨⟨⟨f,i,y⟩,a,B,⟨j,rt,r,D,k⟩,⟨s,A,F,n⟩,⟨G,o,m,b⟩⟩,d,q,t,u⟩=E/\iw l=E/\q.length+l.length<=32
 .have⟨I,J,S⟩:=M;have v:=(du (dw I).1).2.1;have e:dZ ⟨⟨⟨f,i,y⟩,a,B,⟨j,rt,r,D,k⟩,⟨s,A,F,n⟩,⟨G,o,m,b⟩⟩,d,q,t,u⟩ l=⟨⟨⟨⟨f,i,y⟩,if q++l=[]then a else vM a,B,⟨j,rt,r,D,k⟩,⟨s,A,F,n⟩,⟨G,o,m,b⟩⟩,d,q++l,t,u⟩,E⟩:=by unfold dZ;rw[if_pos ⟨I,J,S⟩]
  rw[e]at hK;have w:0<=(⟨⟨⟨f,i,y⟩,a,B,⟨j,rt,r,D,k⟩,⟨s,A,F,n⟩,⟨G,o,m,b⟩⟩,d,q,t,u⟩:fe).p.en/\(⟨⟨⟨f,i,y⟩,a,B,⟨j,rt,r,D,k⟩,⟨s,A,F,n⟩,⟨G,o,m,b⟩⟩,d,q,t,u⟩:fe).p.en<=127:=⟨v.1,Int.le_trans v.2 Y5⟩;by_cases L:q++l=[]
  .have z:(q++l).length=0:=by rw[L];rfl
   rw[if_pos L]at hK;repeat'(conv=>whnf);first|apply U0;exact gS|apply gU;exact gA|(apply na;focus(simp only[gQ,eq_self,I,J];done))|refine gB ?_ ?_<;>intro c h<;>try exact bG
   all_goals exact gF hK
  .have z:=Nat.pos_of_ne_zero λx=>L (cq x);rw[if_neg L]at hK;by_cases c:a/2%2=1
   .rw[show vM a=a by simp[vM,c]]at hK;have g:(!decide ((⟨⟨⟨f,i,y⟩,a,B,⟨j,rt,r,D,k⟩,⟨s,A,F,n⟩,⟨G,o,m,b⟩⟩,d,q,t,u⟩:fe).p.en/2%2=1))=H:=by simp[c]
    repeat'(conv=>whnf);first|apply U0;exact gS|apply gU;exact gA|(apply na;focus(simp[eq_self,I,J];done))|refine gB ?_ ?_<;>intro c h<;>try exact bG
    all_goals exact gF hK
   .rw[show vM a=a+2 by simp[vM,c]]at hK;have g:(!decide ((⟨⟨⟨f,i,y⟩,a,B,⟨j,rt,r,D,k⟩,⟨s,A,F,n⟩,⟨G,o,m,b⟩⟩,d,q,t,u⟩:fe).p.en/2%2=1))=E:=by simp[c]
    repeat'(conv=>whnf);first|apply U0;exact gS|apply gU;exact gA|(apply na;focus(simp[eq_self,I,J];done))|refine gB ?_ ?_<;>intro c h<;>try exact bG
    all_goals exact gF hK
 .have e:dZ ⟨⟨⟨f,i,y⟩,a,B,⟨j,rt,r,D,k⟩,⟨s,A,F,n⟩,⟨G,o,m,b⟩⟩,d,q,t,u⟩ l=⟨FT,H⟩:=by unfold dZ;rw[if_neg M]
  rw[e]at hK;cases I:eR ⟨⟨⟨f,i,y⟩,a,B,⟨j,rt,r,D,k⟩,⟨s,A,F,n⟩,⟨G,o,m,b⟩⟩,d,q,t,u⟩<;>cases J:iw l;all_goals
   simp[I,J,true_and,false_and,and_false,bt,not_false_eq_true]at M;repeat'(conv=>whnf);first|apply U0;exact gS|apply gU;exact gA|(apply qM;focus(simp[eq_self,I,J];done))|(apply na;focus(simp[eq_self,I,J];done))|refine gB ?_ ?_<;>intro c h<;>try exact bG
   all_goals exact gF hK
def BD:CS:=cz [lN,.inl .bn] uf
def HS:bF aa.prog 67 BD:=bc J7
def Ke:bK:=[(63,kO),(81,ma)]
def C9:aR aa.prog Ke:=an ⟨kD,lG,aA⟩
def tU:DA [lN,.inl .int]->(DV->Prop)->Prop:=λ⟨⟨f,c,n,p,o,r,rt,e,t,g,s,u,v,h,w,i,a,b,q,j,k,l,_⟩,m,_⟩K=>K (aZ ⟨⟨⟨f,c,n⟩,p,o,⟨r,rt,e,t,g⟩,⟨s,u,v,h⟩,⟨w,i,a,b⟩⟩,q,j,k,l⟩ m).d
def JX:fi aa.prog 61 [lN,.inl .int] tU:=by
 refine aV (TR:=eT) aJ au C9 (Rn.fM func61) rfl ?_;dsimp only[DA,HL,Sh.T];rintro⟨⟨f,d,x,p,A,g,rt,r,B,i,s,y,D,j,F,k,a,b,q,c,n,o,_⟩,m,_⟩K hK⟨⟨-,-,-,-,-,-,-,h1,-,-,-,h2,-,-,-,-,-,-,h3,h4,-⟩,-⟩;dsimp only[tU]at hK;replace h1:=gl r h1;replace h2:=gl y h2;replace h3:=gl q h3;replace h4:=gl c h4;by_cases G:eR ⟨⟨⟨f,d,x⟩,p,A,⟨g,rt,r,B,i⟩,⟨s,y,D,j⟩,⟨F,k,a,b⟩⟩,q,c,n,o⟩=E/\0<=m/\m<=32
 .obtain⟨z,I,J⟩:=G;have e:aZ ⟨⟨⟨f,d,x⟩,p,A,⟨g,rt,r,B,i⟩,⟨s,y,D,j⟩,⟨F,k,a,b⟩⟩,q,c,n,o⟩ m=⟨⟨⟨⟨f,d,x⟩,p,A,⟨g,rt,r,B,i⟩,⟨s,y,D,j⟩,⟨F,k,a,b⟩⟩,q.drop m.toNat,c,n,o⟩,q.take m.toNat,E⟩:=by unfold aZ;rw[if_pos ⟨z,I,J⟩]
  rw[e]at hK;have w:0<=kG m q.length/\kG m q.length<=q.length:=by unfold kG;split<;>omega
  have t:(q.drop (aC 0)).take ((kG m q.length).toNat-aC 0)=q.take m.toNat:=by
   unfold kG;split
   .rw[aM (l:=q) Y0];simp
   .simp
  have u:(q.drop (kG m q.length).toNat).take (((q.length:Nat):Int).toNat-(kG m q.length).toNat)=q.drop m.toNat:=by
   rw[aM Y1];unfold kG;split;.rw[cK Y0,cK Y0]
   .rfl
  rw[<-t,<-u]at hK;repeat'(conv=>whnf);first|refine U0 ?_ ?_;exact gS|apply gU;exact gA|(refine na ?_ ?_;focus(simp only[gQ,eq_self,z];done))|refine gB ?_ ?_<;>intro v h<;>try exact bG
  all_goals exact gF hK
 .have e:aZ ⟨⟨⟨f,d,x⟩,p,A,⟨g,rt,r,B,i⟩,⟨s,y,D,j⟩,⟨F,k,a,b⟩⟩,q,c,n,o⟩ m=⟨FT,[],H⟩:=by unfold aZ;rw[if_neg G]
  rw[e]at hK;cases z:eR ⟨⟨⟨f,d,x⟩,p,A,⟨g,rt,r,B,i⟩,⟨s,y,D,j⟩,⟨F,k,a,b⟩⟩,q,c,n,o⟩;all_goals
   simp only[z,true_and,false_and,bt,not_false_eq_true]at G;repeat'(conv=>whnf);first|refine U0 ?_ ?_;exact gS|apply gU;exact gA|(refine qM ?_ ?_;focus(simp only[gQ,eq_self,z];done))|(refine na ?_ ?_;focus(simp only[gQ,eq_self,z];done))|refine gB ?_ ?_<;>intro v h<;>try exact bG
   all_goals exact gF hK
def Bu:CS:=cz [lN,.inl .int] tU
def HH:bF aa.prog 61 Bu:=bc JX
def NK:bK:=[(43,LH)]
def Fu:aR aa.prog NK:=an ⟨Q8,aA⟩
def RL:fi aa.prog 114 [OO] (λ⟨⟨h,i,f,p,j,r,k,l,n,o,s,q,t,u,v,y,m,b,z,A,c,B,Q,D,R,F,G,S,I,J,L,M,N,O,e,g,_⟩,_⟩K=>af (C1 ⟨⟨⟨h,i,f⟩,p,j,⟨r,k,l,n,o⟩,⟨s,q,t,u⟩,⟨v,y,m,b⟩⟩,⟨⟨z,A,c⟩,B,Q,⟨D,R,F,G,S⟩,⟨I,J,L,M⟩,⟨N,O,e,g⟩⟩⟩=E)<|∀x:YE,x=wX ⟨⟨⟨h,i,f⟩,p,j,⟨r,k,l,n,o⟩,⟨s,q,t,u⟩,⟨v,y,m,b⟩⟩,⟨⟨z,A,c⟩,B,Q,⟨D,R,F,G,S⟩,⟨I,J,L,M⟩,⟨N,O,e,g⟩⟩⟩->K (.a (YE.d x))):=by dsimp only[DA,HL,Sh.T];rintro⟨⟨h,i,f,p,j,r,k,l,n,o,s,q,t,u,v,y,m,b,z,A,c,B,Q,D,R,F,G,S,I,J,L,M,N,O,e,g,_⟩,_⟩K⟨W,hK⟩w X Z P;exact TG (⟨h,i,f,p,j,r,k,l,n,o,s,q,t,u,v,y,m,b,z,A,c,B,Q,D,R,F,G,S,I,J,L,M,N,O,e,g,_⟩,()) K ⟨W,hK _ rfl⟩ w X Z P
def Hj:CS:=cz [OO] (λ⟨⟨h,i,f,p,j,r,k,l,n,o,s,q,t,u,v,w,m,b,y,z,c,A,B,O,D,P,F,G,Q,I,J,L,M,N,e,g,_⟩,_⟩K=>af (C1 ⟨⟨⟨h,i,f⟩,p,j,⟨r,k,l,n,o⟩,⟨s,q,t,u⟩,⟨v,w,m,b⟩⟩,⟨⟨y,z,c⟩,A,B,⟨O,D,P,F,G⟩,⟨Q,I,J,L⟩,⟨M,N,e,g⟩⟩⟩=E)<|∀x:YE,x=wX ⟨⟨⟨h,i,f⟩,p,j,⟨r,k,l,n,o⟩,⟨s,q,t,u⟩,⟨v,w,m,b⟩⟩,⟨⟨y,z,c⟩,A,B,⟨O,D,P,F,G⟩,⟨Q,I,J,L⟩,⟨M,N,e,g⟩⟩⟩->K (.a (YE.d x)))
def MW:bF aa.prog 114 Hj:=Ze gK RL
def Nq:fi aa.prog 115 [lN] (λ⟨⟨f,b,o,p,u,r,rt,c,x,e,s,z,A,g,B,h,m,a,q,i,j,k,_⟩,_⟩K=>af (eR ⟨⟨⟨f,b,o⟩,p,u,⟨r,rt,c,x,e⟩,⟨s,z,A,g⟩,⟨B,h,m,a⟩⟩,q,i,j,k⟩=E)<|∀(y:fe)(n:Int),y=(dj 40 ⟨⟨⟨f,b,o⟩,p,u,⟨r,rt,c,x,e⟩,⟨s,z,A,g⟩,⟨B,h,m,a⟩⟩,q,i,j,k⟩).1->K (.t [.inr (fe.d y),.inl (.v (.int .i64 n))])):=by dsimp only[DA,HL,Sh.T];rintro⟨⟨f,b,o,p,u,r,rt,c,x,e,s,z,A,g,B,h,m,a,q,i,j,k,_⟩,_⟩K⟨D,hK⟩w F G l;exact RO (⟨f,b,o,p,u,r,rt,c,x,e,s,z,A,g,B,h,m,a,q,i,j,k,_⟩,()) K ⟨D,hK _ _ rfl⟩ w F G l
def DQ:CS:=cz [lN] (λ⟨⟨f,b,l,p,o,r,rt,c,u,e,s,w,x,g,z,h,m,a,q,i,j,k,_⟩,_⟩K=>af (eR ⟨⟨⟨f,b,l⟩,p,o,⟨r,rt,c,u,e⟩,⟨s,w,x,g⟩,⟨z,h,m,a⟩⟩,q,i,j,k⟩=E)<|∀(y:fe)(n:Int),y=(dj 40 ⟨⟨⟨f,b,l⟩,p,o,⟨r,rt,c,u,e⟩,⟨s,w,x,g⟩,⟨z,h,m,a⟩⟩,q,i,j,k⟩).1->K (.t [.inr (fe.d y),.inl (.v (.int .i64 n))]))
def JU:bF aa.prog 115 DQ:=Ze gK Nq
def RN:fi aa.prog 92 [lN] (λ⟨⟨f,c,n,p,o,r,rt,d,t,e,g,u,w,h,x,i,m,b,q,j,k,l,_⟩,_⟩K=>K (.a [.v (.int .i64 f),.v (.int .i64 c),.v (.int .i64 n),.v (.int .i64 p),.v (.int .i64 o),.v (.int .i64 r),.v (.int .i64 rt),.s 80 (.bC d),.v (.bool t),.v (.int .i64 e),.v (.int .i64 g),.s 3 (.bn u),.v (.int .i64 w),.v (.int .i64 h),.v (.bool x),.v (.bool i),.v (.bool m),.v (.bool b),.s 3 (.bn q),.s 3 (.bn j),.v (.int .i64 k),.v (.int .i64 l)])):=DS
def Hk:CS:=cz [lN] (λ⟨⟨f,c,n,p,o,r,rt,d,t,e,g,u,w,h,x,i,m,b,q,j,k,l,_⟩,_⟩K=>K (.a [.v (.int .i64 f),.v (.int .i64 c),.v (.int .i64 n),.v (.int .i64 p),.v (.int .i64 o),.v (.int .i64 r),.v (.int .i64 rt),.s 80 (.bC d),.v (.bool t),.v (.int .i64 e),.v (.int .i64 g),.s 3 (.bn u),.v (.int .i64 w),.v (.int .i64 h),.v (.bool x),.v (.bool i),.v (.bool m),.v (.bool b),.s 3 (.bn q),.s 3 (.bn j),.v (.int .i64 k),.v (.int .i64 l)]))
def MX:bF aa.prog 92 Hk:=Ze gK RN
def Uf:bK:=[(92,Hk),(114,Hj),(115,DQ)]
def KR:aR aa.prog Uf:=an ⟨MX,MW,JU,aA⟩
def Mk:DA [oG]->(DV->Prop)->Prop:=λ⟨⟨h,i,f,p,j,r,k,l,n,o,s,q,t,u,v,w,m,b,y,z,A,B,W,D,c,X,F,G,Z,I,J,L,M,N,O,P,Q,R,e,g,S,T,Q0,Q1,_⟩,_⟩K=>af (iZ ⟨⟨⟨⟨h,i,f⟩,p,j,⟨r,k,l,n,o⟩,⟨s,q,t,u⟩,⟨v,w,m,b⟩⟩,y,z,A,B⟩,⟨⟨⟨W,D,c⟩,X,F,⟨G,Z,I,J,L⟩,⟨M,N,O,P⟩,⟨Q,R,e,g⟩⟩,S,T,Q0,Q1⟩⟩=E)<|∀x:lI,x=I9 ⟨⟨⟨⟨h,i,f⟩,p,j,⟨r,k,l,n,o⟩,⟨s,q,t,u⟩,⟨v,w,m,b⟩⟩,y,z,A,B⟩,⟨⟨⟨W,D,c⟩,X,F,⟨G,Z,I,J,L⟩,⟨M,N,O,P⟩,⟨Q,R,e,g⟩⟩,S,T,Q0,Q1⟩⟩->K (.a (lI.d x))
def TJ:fi aa.prog 93 [oG] Mk:=by
 apply aV (TR:=eT) aJ au KR (Rn.fM func93) rfl;dsimp only[DA,HL,Sh.T];rintro⟨⟨o,p,f,t,u,v,w,r,A,B,d,s,D,h,F,G,c,e,W,X,cwA,clA,q,I,g,J,L,M,N,k,O,P,Q,l,R,S,Q0,Q1,i,j,Q2,Z,sw,lK,_⟩,_⟩K⟨hv,hK⟩⟨⟨-,-,-,-,-,-,-,h1,-,-,-,h2,-,-,-,-,-,-,h3,h4,-,-,-,-,-,-,-,-,-,g1,-,-,-,g2,-,-,-,-,-,-,g3,g4,-⟩,-⟩;have hK:=hK;have hv:=hv;have g2:=gl l g2;have g3:=gl Q2 g3;have g4:=gl Z g4;have⟨ha,hb⟩:=qz hv;have pa:=(dw ha).1;have pb:=(dw hb).1;have hp:C1 ⟨⟨⟨o,p,f⟩,t,u,⟨v,w,r,A,B⟩,⟨d,s,D,h⟩,⟨F,G,c,e⟩⟩,⟨⟨q,I,g⟩,J,L,⟨M,N,k,O,P⟩,⟨Q,l,R,S⟩,⟨Q0,Q1,i,j⟩⟩⟩=E:=by simp_all[C1,aj]
 have va0:=xe ha pb;have vb0:=xe hb pa;have va:eR ⟨(wX ⟨⟨⟨o,p,f⟩,t,u,⟨v,w,r,A,B⟩,⟨d,s,D,h⟩,⟨F,G,c,e⟩⟩,⟨⟨q,I,g⟩,J,L,⟨M,N,k,O,P⟩,⟨Q,l,R,S⟩,⟨Q0,Q1,i,j⟩⟩⟩).a,W,X,cwA,clA⟩=E:=va0;have vb:eR ⟨(wX ⟨⟨⟨o,p,f⟩,t,u,⟨v,w,r,A,B⟩,⟨d,s,D,h⟩,⟨F,G,c,e⟩⟩,⟨⟨q,I,g⟩,J,L,⟨M,N,k,O,P⟩,⟨Q,l,R,S⟩,⟨Q0,Q1,i,j⟩⟩⟩).b,Q2,Z,sw,lK⟩=E:=vb0;clear va0 vb0;clear hv ha hb pa pb;repeat'((conv=>whnf);(apply U0;exact gS))
 intro x hx;rw[<-hx]at va vb;repeat'((conv=>whnf);(apply U0;exact gS))
 intro y n hy;repeat'((conv=>whnf);(apply U0;exact gS))
 intro z m hz;repeat'((conv=>whnf);(apply U0;exact gS))
 have hK2:=hK ⟨y,z⟩ (by rw[hx]at hy hz;unfold I9;rw[hy,hz];rfl);clear hK;have hK:=hK2;all_goals exact gF hK
def LW:CS:=cz [oG] Mk
def Rh:bF aa.prog 93 LW:=bc TJ
def Kg:bK:=[(42,qF)]
def Db:aR aa.prog Kg:=an ⟨qh,aA⟩
def tX:DA [oG]->(DV->Prop)->Prop:=λ⟨⟨e,g,f,p,h,r,i,j,k,l,s,n,o,q,t,u,m,a,v,w,x,y,z,A,b,B,T,D,W,F,G,X,I,J,L,M,N,O,c,d,P,Q,R,S,_⟩,_⟩K=>K (zo1 (fo ⟨⟨⟨⟨e,g,f⟩,p,h,⟨r,i,j,k,l⟩,⟨s,n,o,q⟩,⟨t,u,m,a⟩⟩,v,w,x,y⟩,⟨⟨⟨z,A,b⟩,B,T,⟨D,W,F,G,X⟩,⟨I,J,L,M⟩,⟨N,O,c,d⟩⟩,P,Q,R,S⟩⟩))
def JZ:fi aa.prog 26 [oG] tX:=by apply aV (TR:=eT) aJ au Db (Rn.fM func26) rfl;dsimp only[DA,HL,Sh.T];rintro⟨⟨y,z,f,A,B,Q0,D,o,Q1,F,G,c,b,Q2,I,J,m,d,p,e,L,M,N,O,g,P,Q,R,S,a,Q3,Q4,W,t,X,Q5,Z,iW,i,n,q,u,sw,lK,_⟩,_⟩K hK⟨⟨-,-,-,-,-,-,-,h1,-,-,-,h2,-,-,-,-,-,-,h3,h4,-,-,-,-,-,-,-,-,-,g1,-,-,-,g2,-,-,-,-,-,-,g3,g4,-⟩,-⟩;dsimp only[tX]at hK;have h1:=gl o h1;have h2:=gl c h2;have h3:=gl p h3;have h4:=gl e h4;have g1:=gl a g1;have g2:=gl t g2;have g3:=gl q g3;have g4:=gl u g4;cases hv:iZ ⟨⟨⟨⟨y,z,f⟩,A,B,⟨Q0,D,o,Q1,F⟩,⟨G,c,b,Q2⟩,⟨I,J,m,d⟩⟩,p,e,L,M⟩,⟨⟨⟨N,O,g⟩,P,Q,⟨R,S,a,Q3,Q4⟩,⟨W,t,X,Q5⟩,⟨Z,iW,i,n⟩⟩,q,u,sw,lK⟩⟩with|false=>rw[show fo _=[]by simp[fo,hv]]at hK;exact gW|true=>
 have⟨⟨a1,a2,a3,a4⟩,⟨b1,b2,b3,b4⟩⟩:=Xo hv;dsimp only at a1 a2 a3 a4 b1 b2 b3 b4;have hs:=(iU (du (dw (qz hv).1).1).2.2.2.2).2.2;dsimp only at hs;rw[show fo _=((q++a.map oP)++(if b=-1 then[]else[b]))++c++e by simp[fo,hv]]at hK;repeat'(conv=>whnf);first|apply U0;exact gS|refine gB ?_ ?_<;>intro hb h<;>try exact bG
 refine dt.mI {k:Nat//k<=a.length} (λs=>[(3,.l (.s 1 0)),(20,.l (.v (.int .i64 s.1))),(13,.j)]) (λs=>[(1,.r 0 3 (.bn (q++(a.take s.1).map oP)))]) (λs=>a.length-s.1) ⟨0,a7 _⟩ [0,1] ?_ ?_;.repeat'(first|(apply U0;focus(first|(simp[cT];done)|exact⟨rfl,aA⟩|exact⟨rfl,rfl,aA⟩|rfl))|exact aA)
 rintro⟨k,hk⟩;have hln:(q++(a.take k).map oP).length<=48:=by simp;omega
 repeat'(conv=>whnf);first|refine U0 ?_ ?_;exact gS|refine gB ?_ ?_<;>intro hb h<;>try exact bG
 .have wS:k<a.length:=Y0;have x:=VZ wS q;(refine ae ⟨k+1,wS⟩ (ae [0,1] (aB ?_ ?_)));.show a.length-(k+1)<a.length-k;omega
  .repeat'(first|(apply U0;focus(first|(simp only[x,jr];done)|(simp[jr];done)|exact⟨rfl,aA⟩|exact⟨rfl,rfl,aA⟩|exact rfl))|exact aA)
 all_goals
  have hke:k=a.length:=Y0;subst hke;(apply gI hK;repeat' first|exact gR|apply U0);by_cases w:b=-1;.first|(exfalso;exact(by assumption:¬b=-1) w)|(simp[w];done)
  .first|(exfalso;exact w Y3)|(simp[w];done)
def Bw:CS:=cz [oG] tX
def HJ:bF aa.prog 26 Bw:=bc JZ
def Kv:bK:=[(50,v7)]
def Dm:aR aa.prog Kv:=an ⟨xE,aA⟩
def ui:DA [oG]->(DV->Prop)->Prop:=λ⟨⟨e,g,f,p,h,r,i,j,k,l,s,n,o,q,t,u,m,a,v,w,x,y,z,A,b,B,T,D,W,F,G,X,I,J,L,M,N,O,c,d,P,Q,R,S,_⟩,_⟩K=>K (zo1 (fo ⟨⟨⟨⟨e,g,f⟩,p,h,⟨r,i,j,k,l⟩,⟨s,n,o,q⟩,⟨t,u,m,a⟩⟩,v,w,x,y⟩,⟨⟨⟨z,A,b⟩,B,T,⟨D,W,F,G,X⟩,⟨I,J,L,M⟩,⟨N,O,c,d⟩⟩,P,Q,R,S⟩⟩))
def Ka:fi aa.prog 31 [oG] ui:=by apply aV (TR:=eT) aJ au Dm (Rn.fM func31) rfl;dsimp only[DA,HL,Sh.T];rintro⟨⟨y,z,f,A,B,Q0,D,o,Q1,F,G,c,b,Q2,I,J,m,d,p,e,L,M,N,O,g,P,Q,R,S,a,Q3,Q4,W,t,X,Q5,Z,iW,i,n,q,u,sw,lK,_⟩,_⟩K hK⟨⟨-,-,-,-,-,-,-,h1,-,-,-,h2,-,-,-,-,-,-,h3,h4,-,-,-,-,-,-,-,-,-,g1,-,-,-,g2,-,-,-,-,-,-,g3,g4,-⟩,-⟩;dsimp only[ui]at hK;have h1:=gl o h1;have h2:=gl c h2;have h3:=gl p h3;have h4:=gl e h4;have g1:=gl a g1;have g2:=gl t g2;have g3:=gl q g3;have g4:=gl u g4;cases hv:iZ ⟨⟨⟨⟨y,z,f⟩,A,B,⟨Q0,D,o,Q1,F⟩,⟨G,c,b,Q2⟩,⟨I,J,m,d⟩⟩,p,e,L,M⟩,⟨⟨⟨N,O,g⟩,P,Q,⟨R,S,a,Q3,Q4⟩,⟨W,t,X,Q5⟩,⟨Z,iW,i,n⟩⟩,q,u,sw,lK⟩⟩with|false=>rw[show fo _=[]by simp[fo,hv]]at hK;exact gW|true=>
 have⟨⟨a1,a2,a3,a4⟩,⟨b1,b2,b3,b4⟩⟩:=Xo hv;dsimp only at a1 a2 a3 a4 b1 b2 b3 b4;have hs:=(iU (du (dw (qz hv).1).1).2.2.2.2).2.2;dsimp only at hs;rw[show fo _=((q++a.map oP)++(if b=-1 then[]else[b]))++c++e by simp[fo,hv]]at hK;repeat'(conv=>whnf);first|apply U0;exact gS|refine gB ?_ ?_<;>intro hb h<;>try exact bG
 refine dt.mI {k:Nat//k<=a.length} (λs=>[(3,.l (.s 1 0)),(4,.l (.v (.int .i64 s.1))),(5,.j),(10,.j),(14,.j)]) (λs=>[(1,.r 0 3 (.bn (q++(a.take s.1).map oP)))]) (λs=>a.length-s.1) ⟨0,a7 _⟩ [0,1] ?_ ?_;.repeat'(first|(apply U0;focus(first|(simp[cT];done)|exact⟨rfl,aA⟩|exact⟨rfl,rfl,aA⟩|rfl))|exact aA)
 rintro⟨k,hk⟩;have hln:(q++(a.take k).map oP).length<=48:=by simp;omega
 repeat'(conv=>whnf);first|refine U0 ?_ ?_;exact gS|refine gB ?_ ?_<;>intro hb h<;>try exact bG
 .have wS:k<a.length:=Y0;have x:=VZ wS q;(refine ae ⟨k+1,wS⟩ (ae [0,1] (aB ?_ ?_)));.show a.length-(k+1)<a.length-k;omega
  .repeat'(first|(apply U0;focus(first|(simp only[x,jr];done)|(simp[jr];done)|exact⟨rfl,aA⟩|exact⟨rfl,rfl,aA⟩|exact rfl))|exact aA)
 all_goals
  have hke:k=a.length:=Y0;subst hke;(apply gI hK;repeat' first|exact gR|apply U0);by_cases w:b=-1;.first|(exfalso;omega)|(simp[w];done)
  .first|(exfalso;omega)|(simp[w];done)
def BG:CS:=cz [oG] ui
def HV:bF aa.prog 31 BG:=bc Ka
def WW(x:lI)(a b c d g e i d2:Nat):List LV:=[.v (.int .i64 x.a.p.f.bits),.v (.int .i64 x.a.p.f.par),.v (.int .i64 x.a.p.f.stop),.v (.int .i64 x.a.p.en),.v (.int .i64 x.a.p.co),.v (.int .i64 x.a.p.rc.bS),.v (.int .i64 x.a.p.rc.lh),.s a 0,.v (.bool x.a.p.rc.cX),.v (.int .i64 x.a.p.rc.CP),.v (.int .i64 x.a.p.sd.bS),.s b 0,.v (.int .i64 x.a.p.sd.shift),.v (.int .i64 x.a.p.sd.left),.v (.bool x.a.p.md.c),.v (.bool x.a.p.md.h),.v (.bool x.a.p.md.cc),.v (.bool x.a.p.md.hc),.s c 0,.s d 0,.v (.int .i64 x.a.eX),.v (.int .i64 x.a.cX),.v (.int .i64 x.b.p.f.bits),.v (.int .i64 x.b.p.f.par),.v (.int .i64 x.b.p.f.stop),.v (.int .i64 x.b.p.en),.v (.int .i64 x.b.p.co),.v (.int .i64 x.b.p.rc.bS),.v (.int .i64 x.b.p.rc.lh),.s g 0,.v (.bool x.b.p.rc.cX),.v (.int .i64 x.b.p.rc.CP),.v (.int .i64 x.b.p.sd.bS),.s e 0,.v (.int .i64 x.b.p.sd.shift),.v (.int .i64 x.b.p.sd.left),.v (.bool x.b.p.md.c),.v (.bool x.b.p.md.h),.v (.bool x.b.p.md.cc),.v (.bool x.b.p.md.hc),.s i 0,.s d2 0,.v (.int .i64 x.b.eX),.v (.int .i64 x.b.cX)]
def T2:bK:=[(50,v7),(89,jf),(92,rB),(93,LW)]
def Kw:aR aa.prog T2:=an ⟨xE,eZ,pd,Rh,aA⟩
def Ys:Nat->Tr:=λn=>match n with|3=>iu [0,0,1,0,3,0,4,0] (.iY 2 1 (.iY 5 1 (iu [6,0,7,1,8,2] .nil) 7 1 (iu [5,1,6,1,8,2] .nil)) 7 1 (iu [2,1,5,1,6,1,8,2] .nil))|_=>.nil
def A6:DA [oG,.inl .int]->(DV->Prop)->Prop:=λ⟨⟨g,h,f,p,i,r,j,k,l,n,s,o,q,u,v,w,m,a,x,y,z,A,B,W,b,D,X,F,G,Z,I,J,L,M,N,O,P,Q,c,e,R,S,T,Q0,_⟩,t,_⟩K=>K (mJ ⟨⟨⟨⟨g,h,f⟩,p,i,⟨r,j,k,l,n⟩,⟨s,o,q,u⟩,⟨v,w,m,a⟩⟩,x,y,z,A⟩,⟨⟨⟨B,W,b⟩,D,X,⟨F,G,Z,I,J⟩,⟨L,M,N,O⟩,⟨P,Q,c,e⟩⟩,R,S,T,Q0⟩⟩ t).d
def Tw:fi aa.prog 65 [oG,.inl .int] A6:=by
 apply aV (TR:=Ys) aJ au Kw (Rn.fM func65) rfl;dsimp only[DA,HL,Sh.T];rintro⟨⟨z,A,f,B,Q0,D,Q1,i,F,G,Q2,s,I,J,L,M,m,c,q,n,N,O,P,Q,d,R,S,Q3,Q4,o,W,X,Q5,u,Z,jv,ju,iW,e,g,w,y,sw,lK,_⟩,t,_⟩K hK⟨⟨-,-,-,-,-,-,-,h1,-,-,-,h2,-,-,-,-,-,-,h3,h4,-,-,-,-,-,-,-,-,-,g1,-,-,-,g2,-,-,-,-,-,-,g3,g4,-⟩,-⟩;dsimp only[A6]at hK;have h1:=gl i h1;have h2:=gl s h2;have h3:=gl q h3;have h4:=gl n h4;have g1:=gl o g1;have g2:=gl u g2;have g3:=gl w g3;replace g4:=gl y g4;by_cases hv:iZ ⟨⟨⟨⟨z,A,f⟩,B,Q0,⟨D,Q1,i,F,G⟩,⟨Q2,s,I,J⟩,⟨L,M,m,c⟩⟩,q,n,N,O⟩,⟨⟨⟨P,Q,d⟩,R,S,⟨Q3,Q4,o,W,X⟩,⟨Q5,u,Z,jv⟩,⟨ju,iW,e,g⟩⟩,w,y,sw,lK⟩⟩=E/\0<=t/\t<=150
 .rw[show mJ _ t=_ by unfold mJ;rw[if_pos hv]]at hK;have⟨hv,h0,h9⟩:=hv;have hrv:=yh hv;repeat'(conv=>whnf);first|apply U0;exact gS|apply dS.mk;exact wP|apply U1|apply gU;exact gA|refine gB ?_ ?_<;>intro hb h<;>try exact bG
  .exfalso;have h':(¬(0:Int)<=t)\/¬t<=(150:Int):=Y3;omega
  refine dt.mI {k:Nat//(k:Int)<=t} (λ⟨k,_⟩=>[(19,.j),(22,.j),(23,.j),(7,.l (.v (.int .i64 k)))]) (λ⟨k,_⟩=>[(2,.b (WW (mK k ⟨⟨⟨⟨z,A,f⟩,B,Q0,⟨D,Q1,i,F,G⟩,⟨Q2,s,I,J⟩,⟨L,M,m,c⟩⟩,q,n,N,O⟩,⟨⟨⟨P,Q,d⟩,R,S,⟨Q3,Q4,o,W,X⟩,⟨Q5,u,Z,jv⟩,⟨ju,iW,e,g⟩⟩,w,y,sw,lK⟩⟩) 3 4 5 6 7 8 9 10) 50),(3,.r 0 80 (.bC (mK k ⟨⟨⟨⟨z,A,f⟩,B,Q0,⟨D,Q1,i,F,G⟩,⟨Q2,s,I,J⟩,⟨L,M,m,c⟩⟩,q,n,N,O⟩,⟨⟨⟨P,Q,d⟩,R,S,⟨Q3,Q4,o,W,X⟩,⟨Q5,u,Z,jv⟩,⟨ju,iW,e,g⟩⟩,w,y,sw,lK⟩⟩).a.p.rc.items)),(4,.r 0 3 (.bn (mK k ⟨⟨⟨⟨z,A,f⟩,B,Q0,⟨D,Q1,i,F,G⟩,⟨Q2,s,I,J⟩,⟨L,M,m,c⟩⟩,q,n,N,O⟩,⟨⟨⟨P,Q,d⟩,R,S,⟨Q3,Q4,o,W,X⟩,⟨Q5,u,Z,jv⟩,⟨ju,iW,e,g⟩⟩,w,y,sw,lK⟩⟩).a.p.sd.items)),(5,.r 0 3 (.bn (mK k ⟨⟨⟨⟨z,A,f⟩,B,Q0,⟨D,Q1,i,F,G⟩,⟨Q2,s,I,J⟩,⟨L,M,m,c⟩⟩,q,n,N,O⟩,⟨⟨⟨P,Q,d⟩,R,S,⟨Q3,Q4,o,W,X⟩,⟨Q5,u,Z,jv⟩,⟨ju,iW,e,g⟩⟩,w,y,sw,lK⟩⟩).a.pM)),(6,.r 0 3 (.bn (mK k ⟨⟨⟨⟨z,A,f⟩,B,Q0,⟨D,Q1,i,F,G⟩,⟨Q2,s,I,J⟩,⟨L,M,m,c⟩⟩,q,n,N,O⟩,⟨⟨⟨P,Q,d⟩,R,S,⟨Q3,Q4,o,W,X⟩,⟨Q5,u,Z,jv⟩,⟨ju,iW,e,g⟩⟩,w,y,sw,lK⟩⟩).a.out)),(7,.r 0 80 (.bC (mK k ⟨⟨⟨⟨z,A,f⟩,B,Q0,⟨D,Q1,i,F,G⟩,⟨Q2,s,I,J⟩,⟨L,M,m,c⟩⟩,q,n,N,O⟩,⟨⟨⟨P,Q,d⟩,R,S,⟨Q3,Q4,o,W,X⟩,⟨Q5,u,Z,jv⟩,⟨ju,iW,e,g⟩⟩,w,y,sw,lK⟩⟩).b.p.rc.items)),(8,.r 0 3 (.bn (mK k ⟨⟨⟨⟨z,A,f⟩,B,Q0,⟨D,Q1,i,F,G⟩,⟨Q2,s,I,J⟩,⟨L,M,m,c⟩⟩,q,n,N,O⟩,⟨⟨⟨P,Q,d⟩,R,S,⟨Q3,Q4,o,W,X⟩,⟨Q5,u,Z,jv⟩,⟨ju,iW,e,g⟩⟩,w,y,sw,lK⟩⟩).b.p.sd.items)),(9,.r 0 3 (.bn (mK k ⟨⟨⟨⟨z,A,f⟩,B,Q0,⟨D,Q1,i,F,G⟩,⟨Q2,s,I,J⟩,⟨L,M,m,c⟩⟩,q,n,N,O⟩,⟨⟨⟨P,Q,d⟩,R,S,⟨Q3,Q4,o,W,X⟩,⟨Q5,u,Z,jv⟩,⟨ju,iW,e,g⟩⟩,w,y,sw,lK⟩⟩).b.pM)),(10,.r 0 3 (.bn (mK k ⟨⟨⟨⟨z,A,f⟩,B,Q0,⟨D,Q1,i,F,G⟩,⟨Q2,s,I,J⟩,⟨L,M,m,c⟩⟩,q,n,N,O⟩,⟨⟨⟨P,Q,d⟩,R,S,⟨Q3,Q4,o,W,X⟩,⟨Q5,u,Z,jv⟩,⟨ju,iW,e,g⟩⟩,w,y,sw,lK⟩⟩).b.out))]) (λ⟨k,_⟩=>(t-k).toNat) ⟨0,Y0⟩ [0,1,2,3,4,5,6,7,8,9,10] ?_ ?_;·(repeat'(first|(apply U0;exact gV)|exact aA))
  rintro⟨k,hk⟩;have hvk:=hrv k;repeat'(conv=>whnf);first|apply U0;exact gS|refine gB ?_ ?_<;>intro hb h<;>try exact bG
  .intro x hx;have hx2:x=mK (k+1) _:=hx;clear hx;subst hx2;repeat'((conv=>whnf);(apply U0;exact gS))
   (refine ae ⟨k+1,Y0⟩ (ae [0,1,2,11,12,13,14,15,16,17,18] (aB ?_ ?_)))
   .show(t-((k+1:Nat):Int)).toNat<(t-(k:Int)).toNat;omega
   .repeat' first|refine U0 ?_ ?_;exact gV|exact aA
  .obtain rfl:k=t.toNat:=Y0;(apply gI hK;repeat' first|exact gR|apply U0)
 .rw[show mJ _ t=_ by unfold mJ;rw[if_neg hv]]at hK;by_cases hp:iZ ⟨⟨⟨⟨z,A,f⟩,B,Q0,⟨D,Q1,i,F,G⟩,⟨Q2,s,I,J⟩,⟨L,M,m,c⟩⟩,q,n,N,O⟩,⟨⟨⟨P,Q,d⟩,R,S,⟨Q3,Q4,o,W,X⟩,⟨Q5,u,Z,jv⟩,⟨ju,iW,e,g⟩⟩,w,y,sw,lK⟩⟩=E
  .have ht:¬(0<=t/\t<=150):=λh=>hv ⟨hp,h⟩;repeat'(conv=>whnf);first|apply U0;exact gS|apply dS.mk;exact wP|apply U1|apply gU;exact gA|refine gB ?_ ?_<;>intro hb h<;>try exact bG
   all_goals first|(exfalso;have h':(0:Int)<=t/\t<=(150:Int):=Y3;omega)|(exact gF hK)
  .replace hp:iZ ⟨⟨⟨⟨z,A,f⟩,B,Q0,⟨D,Q1,i,F,G⟩,⟨Q2,s,I,J⟩,⟨L,M,m,c⟩⟩,q,n,N,O⟩,⟨⟨⟨P,Q,d⟩,R,S,⟨Q3,Q4,o,W,X⟩,⟨Q5,u,Z,jv⟩,⟨ju,iW,e,g⟩⟩,w,y,sw,lK⟩⟩=H:=by simpa using hp
   exact gWf
def LG:CS:=cz [oG,.inl .int] A6
def Q7:bF aa.prog 65 LG:=bc Tw
def UU(x:lI):zbu:=if iZ x then⟨I9 x,E⟩else⟨zmy,H⟩
variable{x:lI}
def Z9(h:iZ x=E):UU x=⟨I9 x,E⟩:=by simp[UU,h]
def zkt(h:iZ x=H):UU x=⟨zmy,H⟩:=by simp[UU,h]
def zas{d:fe}(h:eR d=E):te d=⟨(dj 40 d).1,(dj 40 d).2,E⟩:=by simp[te,h]
def RX:bK:=[(121,DD),(122,LA),(123,ZA),(124,zek)]
def Ib:aR aa.prog RX:=an ⟨JL,QY,zaI,zco,aA⟩
def Uy:Nat->Tr:=λn=>match n with|3=>iu [0,0,1,0,2,0,3,0] (.iY 4 1 (iu [5,1,6,1,7,2] .nil) 5 1 (iu [4,1,6,1,7,2] .nil))|4=>.iY 0 1 (.iY 1 1 (iu [2,2,3,2] .nil) 2 1 (iu [1,1,3,2] .nil)) 1 1 (iu [0,1,2,2,3,2] .nil)|_=>.nil
def Ht:DA [OO]->(DV->Prop)->Prop:=λ⟨⟨g,h,f,p,i,r,j,k,l,n,s,o,q,t,u,v,m,a,w,x,b,y,z,A,B,M,D,N,F,G,O,I,J,L,c,e,_⟩,_⟩K=>K (As ⟨⟨⟨g,h,f⟩,p,i,⟨r,j,k,l,n⟩,⟨s,o,q,t⟩,⟨u,v,m,a⟩⟩,⟨⟨w,x,b⟩,y,z,⟨A,B,M,D,N⟩,⟨F,G,O,I⟩,⟨J,L,c,e⟩⟩⟩).d
def Rt:fi aa.prog 103 [OO] Ht:=by apply aV (TR:=Uy) aJ au Ib (Rn.fM func103) rfl;dsimp only[DA,HL,Sh.T];rintro⟨⟨o,t,c,y,z,A,B,Q0,D,Q1,s,d,e,i,F,G,u,v,j,r,b,Q2,I,J,L,M,N,O,k,l,m,n,P,Q,w,x,_⟩,_⟩K hK _;dsimp only[Ht]at hK;cases hv:C1 ⟨⟨⟨o,t,c⟩,y,z,⟨A,B,Q0,D,Q1⟩,⟨s,d,e,i⟩,⟨F,G,u,v⟩⟩,⟨⟨j,r,b⟩,Q2,I,⟨J,L,M,N,O⟩,⟨k,l,m,n⟩,⟨P,Q,w,x⟩⟩⟩with|false=>rw[show As ⟨⟨⟨o,t,c⟩,y,z,⟨A,B,Q0,D,Q1⟩,⟨s,d,e,i⟩,⟨F,G,u,v⟩⟩,⟨⟨j,r,b⟩,Q2,I,⟨J,L,M,N,O⟩,⟨k,l,m,n⟩,⟨P,Q,w,x⟩⟩⟩=⟨zui,H⟩by simp[As,hv]]at hK;exact gWf|true=>
 have⟨X,Q3⟩:=Xv hv;dsimp only at X Q3;have⟨a1,a2,a3,a4,a5⟩:=du X;have⟨Z,b2,b3,S,Q4⟩:=du Q3;dsimp only at a1 a2 a3 a4 a5 Z b2 b3 S Q4;have ga:(kJ ⟨s,d,e,i⟩).gone=-1\/(0<=(kJ ⟨s,d,e,i⟩).gone/\(kJ ⟨s,d,e,i⟩).gone<=255):=by rw[show(kJ ⟨s,d,e,i⟩).gone=(fI ⟨s,d,e,i⟩).2 by simp[kJ,a5]];exact xy a5
 have gb:(kJ ⟨k,l,m,n⟩).gone=-1\/(0<=(kJ ⟨k,l,m,n⟩).gone/\(kJ ⟨k,l,m,n⟩).gone<=255):=by rw[show(kJ ⟨k,l,m,n⟩).gone=(fI ⟨k,l,m,n⟩).2 by simp[kJ,Q4]];exact xy Q4
 have fa:=(x5 a1).1;have Q5:=(x5 Z).1;dsimp only at fa Q5;have m1:=zeE fa Q5;have m2:=zeE Q5 fa;have p1:=zca m1;have p2:=zca m2;have w1:=U3 (kG o j);have w2:=U3 (kG j o);have R:(!(decide (j=o)&&(decide (r=t)&&(decide (b=c)&&E))))=(!(decide (o=j)&&(decide (t=r)&&(decide (c=b)&&E)))):=by simp[eq_comm,eq_comm (a:=r),eq_comm (a:=b)]
 cases W:(!(decide (o=j)&&(decide (t=r)&&(decide (c=b)&&E))));all_goals rw[W]at R;(repeat'((conv=>whnf);first|apply U0;exact gS|apply dS.mk;exact wP|(refine U0 (λ_ h=>h) ?_)|(refine ae (C _) (aB (λ_ h=>h) ?_))|(refine ae U (aB (λ_ h=>h) ?_))|refine U1 ?_|apply gU;exact gA|refine gB ?_ ?_<;>intro hb h<;>try exact bG))
 all_goals rw[zkF (p:=⟨⟨o,t,c⟩,y,z,⟨A,B,Q0,D,Q1⟩,⟨s,d,e,i⟩,⟨F,G,u,v⟩⟩) (q:=⟨⟨j,r,b⟩,Q2,I,⟨J,L,M,N,O⟩,⟨k,l,m,n⟩,⟨P,Q,w,x⟩⟩) hv (by first|exact Zt (p:=⟨⟨o,t,c⟩,y,z,⟨A,B,Q0,D,Q1⟩,⟨s,d,e,i⟩,⟨F,G,u,v⟩⟩) (g:=(kJ ⟨k,l,m,n⟩).gone) a4 Y0|exact zeb (p:=⟨⟨o,t,c⟩,y,z,⟨A,B,Q0,D,Q1⟩,⟨s,d,e,i⟩,⟨F,G,u,v⟩⟩) (f:=⟨j,r,b⟩) (g:=(kJ ⟨k,l,m,n⟩).gone) a4 m1 Y0 (by first|exact ziO W|exact ziP W)) (by first|exact Zt (p:=⟨⟨j,r,b⟩,Q2,I,⟨J,L,M,N,O⟩,⟨k,l,m,n⟩,⟨P,Q,w,x⟩⟩) (g:=(kJ ⟨s,d,e,i⟩).gone) S Y0|exact zeb (p:=⟨⟨j,r,b⟩,Q2,I,⟨J,L,M,N,O⟩,⟨k,l,m,n⟩,⟨P,Q,w,x⟩⟩) (f:=⟨o,t,c⟩) (g:=(kJ ⟨s,d,e,i⟩).gone) S m2 Y0 (by first|exact ziO R|exact ziP R))]at hK;exact gF hK
def Zd(d:fe):List Int:=d.pM++d.p.rc.items.map oP
structure Ctd(d x:fe):Prop where
 cX:d.cX<=x.cX
 eX:d.eX<=x.eX
 flag:d.p.rc.cX=E->x.p.rc.cX=E\/(d.cX=999\/d.cX<x.cX)way:Zd x=Zd d\/(d.cX=999\/d.cX<x.cX)\/(d.eX=999\/d.eX<x.eX)
def Ctd.refl(d:fe):Ctd d d:=⟨AQ _,AQ _,.inl,.inl rfl⟩
def Ctd.trans{d y x:fe}(a:eR d=E)(b:eR x=E)(h:Ctd d y)(k:Ctd y x):Ctd d x:=by
 have⟨_,_,_,w1,l⟩:=dw a;have⟨_,_,_,w2,zDK⟩:=dw b;have c:=h.cX;have e:=k.cX;have g:=h.eX;have i:=k.eX;refine⟨Y0,Y0,λf=>?_,?_⟩
 .rcases h.flag f with h|h
  .rcases k.flag h with h|h;.exact .inl h
   .right;omega
  .right;omega
 .rcases h.way with h|h|h
  .rcases k.way with k|k|k;.simp_all
   .omega
   .omega
  .omega
  .omega
structure ztU(d:fe):Prop where
 flag:d.p.rc.cX=H
 code:∀g∈d.p.rc.items,g.2=0
 cX:d.cX=0
 eX:d.eX=0
 len:(Zd d).length<=32
def ztX(d:fe):Int:=4*d.p.rc.items.length-d.p.rc.CP
structure Fst(d x:fe):Prop where
 zyg:ztU x
 came:Zd x=Zd d
 CP:d.p.rc.CP<=4->x.p.rc.CP<=4/\ztX x<=ztX d
 none:(d.p.rc.items=[]->d.p.rc.CP=0)->x.p.rc.items=[]->x.p.rc.CP=0
def Fst.refl{d:fe}(h:ztU d):Fst d d:=⟨h,rfl,λh=>⟨h,AQ _⟩,λh=>h⟩
def Fst.trans{d y x:fe}(h:Fst d y)(k:Fst y x):Fst d x:=⟨k.zyg,k.came.trans h.came,λe=>⟨(k.CP (h.CP e).1).1,Int.le_trans (k.CP (h.CP e).1).2 (h.CP e).2⟩,λe=>k.none (h.none e)⟩
def zia(r t:Int):fe:=⟨⟨⟨8,0,1⟩,13,3,⟨r,t,[],H,0⟩,⟨r,[],-1,0⟩,zqR⟩,[],[],0,0⟩
def u3(r t:Int):YM:=if eL (wW r t)then⟨zia r t,E⟩else⟨FT,H⟩
def dT(c:UInt8):List UInt8->List (List UInt8)|[]=>[[]]|x::r=>if x=c then[]::dT c r else(x::(dT c r).headD [])::(dT c r).tail
def I1(c:UInt8)(s:List UInt8):dT c s≠[]:=by cases s with|nil=>simp[dT]|cons x r=>unfold dT;split<;>simp
def Gb(c:UInt8)(s:List UInt8):(dT c s).length=s.count c+1:=by induction s with|nil=>rfl|cons x r i=>
 unfold dT;split;.simp_all
 .simp_all
def YS(w:List UInt8)(l:List (List UInt8)):List (List UInt8):=(w++l.headD [])::l.tail
def ZX(c:UInt8)(s:List UInt8):YS [] (dT c s)=dT c s:=by have:=I1 c s;cases h:dT c s with|nil=>cases this h|cons a l=>rfl
def zmX{c:UInt8}{w r:List UInt8}:YS w (dT c (c::r))=w::dT c r:=by simp[dT,YS]
def zrl{c x:UInt8}{w r:List UInt8}(h:x≠c):YS w (dT c (x::r))=YS (w++[x]) (dT c r):=by simp[dT,YS,h]
def zbV(c:UInt8):∀(s:List UInt8),(gn s c=-1/\dT c s=[s])\/∃m:Nat,gn s c=m/\m<s.length/\dT c s=s.take m::dT c (s.drop (m+1))
 |[]=>.inl ⟨rfl,rfl⟩|x::r=>by
  by_cases h:x=c
  .subst h;exact .inr ⟨0,by simp[gn],Y1,by simp[dT]⟩
  .rcases zbV c r with⟨a,b⟩|⟨m,a,b,d⟩;.exact .inl ⟨by simp[gn,h,a],by simp[dT,h,b]⟩
   .refine .inr ⟨m+1,?_,by simp;omega,by simp[dT,h,d]⟩;have:¬((m:Int)=-1):=Y0;simp[gn,h,a,this]
def uU(b:UInt8):Bool:=decide (48<=b.toNat)&&decide (b.toNat<=57)
def SB(b:UInt8):Int:=(b.toNat:Int)-48
def br:List UInt8->Int|[a]=>if uU a=E then SB a else-1|[a,b]=>if a.toNat≠48/\uU a=E/\uU b=E then SB a*10+SB b else-1|[a,b,c]=>if a.toNat≠48/\uU a=E/\uU b=E/\uU c=E then(SB a*10+SB b)*10+SB c else-1|_=>-1
def chr(n:Nat):UInt8:=gz (48+n)
def lM(n:Nat):List UInt8:=if n<10 then[chr n]else if n<100 then[chr (n/10),chr (n%10)]else[chr (n/100),chr (n/10%10),chr (n%10)]
def eJ(n:Nat):(lM n).length<=3:=by
 unfold lM;split;.simp
 .grind
def MG:List UInt8:=[114,117,110]
def y3:List UInt8:=[115,101,110,100]
def y4:List UInt8:=[116,97,107,101]
def tj:List UInt8:=[99,111,117,110,116]
def tOk:List UInt8:=[111,107]
def SL:List UInt8:=[110,111]
def oJ:List UInt8:=[119,104,97,116]
def iX:List UInt8:=[116,111,111,107]
def tIn:List UInt8:=[105,110,32]
def zuo:List UInt8:=[32,111,117,116,32]
def zjn:List UInt8:=[32,119,114,111,110,103,32]
def zpi:List UInt8:=[32,108,111,115,116,32]
def zhS:List UInt8:=[111,110,32,116,104,101,32,119,97,121,32]
def pz(w:List UInt8):Bool:=decide (w=[97])||decide (w=[98])
def nQ(x:lI)(w:List UInt8):fe:=if w=[98]then x.b else x.a
def U2(x:lI)(w:List UInt8)(d:fe):lI:=if w=[98]then⟨x.a,d⟩else⟨d,x.b⟩
def gZ:List Int->List UInt8|[]=>[]|b::l=>32::lM b.toNat++gZ l
def AN(l:List Int):(gZ l).length<=4*l.length:=by induction l with|nil=>simp[gZ]|cons b l i=>have:=eJ b.toNat;simp[gZ];omega
def zgP(l:List Int)(b:Int):gZ (l++[b])=gZ l++32::lM b.toNat:=by induction l with|nil=>simp[gZ]|cons a l i=>simp[gZ,i]
def O7(d:fe):List UInt8:=tIn++lM d.pM.length++zuo++lM d.out.length++zjn++lM d.eX.toNat++zpi++lM d.cX.toNat
structure SG where
 x:lI
 s:List UInt8
def S7(x:lI)(n:Int):SG:=if(mJ x n).ok=E then⟨(mJ x n).l,tOk⟩else⟨x,SL⟩
def Aj(x:lI)(w:List UInt8)(l:List Int):SG:=if(dZ (nQ x w) l).ok=E then⟨U2 x w (dZ (nQ x w) l).x,tOk⟩else⟨x,SL⟩
def Al(x:lI)(w:List UInt8)(n:Int):SG:=if(aZ (nQ x w) n).ok=E then⟨U2 x w (aZ (nQ x w) n).x,iX++gZ (aZ (nQ x w) n).l⟩else⟨x,SL⟩
def pD(x:lI)(ws:List (List UInt8)):SG:=if ws.getD 0 []=MG then(if ws.length=2 then S7 x (br (ws.getD 1 []))else⟨x,oJ⟩)else if ws.getD 0 []=y3 then(if 3<=ws.length/\pz (ws.getD 1 [])=E then Aj x (ws.getD 1 []) ((ws.drop 2).map br)else⟨x,oJ⟩)else if ws.getD 0 []=y4 then(if ws.length=3/\pz (ws.getD 1 [])=E then Al x (ws.getD 1 []) (br (ws.getD 2 []))else⟨x,oJ⟩)else if ws.getD 0 []=tj then(if ws.length=2/\pz (ws.getD 1 [])=E then⟨x,O7 (nQ x (ws.getD 1 []))⟩else⟨x,oJ⟩)else⟨x,oJ⟩
def lP(x:lI)(s:List UInt8):SG:=pD x (dT 32 s)
def eS:lI->List (List UInt8)->SG|x,[]=>⟨x,[]⟩|x,s::r=>⟨(eS (lP x s).x r).x,(lP x s).s++10::(eS (lP x s).x r).s⟩
def zhV(x:lI):List UInt8:=zhS++lM (fo x).length++[10]
def Eh:lI:=⟨(u3 4 2).x,(u3 4 2).x⟩
def zbL(t:List UInt8):List UInt8:=(eS Eh (dT 10 t).dropLast).s++zhV (eS Eh (dT 10 t).dropLast).x
def gY(t:List UInt8):List UInt8:=if 400<t.length then[116,111,111,32,108,111,110,103,10]else zbL t
def Xn:iZ Eh=E:=by decide+kernel
def zj0{x:fe}{l:List Int}(h:(dZ x l).ok=E):(dZ x l).x.p.f=x.p.f:=by have⟨a,b,c,_⟩:=L9 h;unfold dZ;rw[if_pos ⟨a,b,c⟩]
def w9{x:fe}{n:Int}(h:(aZ x n).ok=E):(aZ x n).x.p.f=x.p.f/\eR (aZ x n).x=E/\iw (aZ x n).l=E:=by
 unfold aZ at h⊢;split at h
 .rename_i i;rw[if_pos i];have⟨a,c,d,e,g⟩:=dw i.1;have b:iw (x.pM.take n.toNat++x.pM.drop n.toNat)=E:=Y7;exact⟨rfl,nf a ⟨by simp;omega,(w8.1 b).2⟩ d e g,(w8.1 b).1⟩
 .cases h
def zai(h:iZ x=E)(w:List UInt8){d:fe}(g:eR d=E)(a:d.p.f=(nQ x w).p.f):iZ (U2 x w d)=E:=by
 have b:=qz h;have c:=zi2 h;unfold U2;unfold nQ at a;split
 .rename_i e;rw[if_pos e]at a;exact Px b.1 g (c.trans a.symm)
 .rename_i e;rw[if_neg e]at a;exact Px g b.2 (a.trans c)
def xa(h:iZ x=E)(ws:List (List UInt8)):iZ (pD x ws).x=E/\(pD x ws).s.length<=200:=by
 have w:oJ.length<=200:=Y5;have n:SL.length<=200:=Y5;have o:tOk.length<=200:=Y5;unfold pD;split
 .split
  .unfold S7;split
   .rename_i e;unfold mJ at e⊢;split at e;.rename_i f;rw[if_pos f];exact⟨yh h _,o⟩
    .cases e
   .simp_all
  .simp_all
 .split
  .split
   .unfold Aj;split;.rename_i e;exact⟨zai h _ (L9 e).2.2.2 (zj0 e),o⟩
    .simp_all
   .simp_all
  .split
   .split
    .unfold Al;split
     .rename_i e;refine⟨zai h _ (w9 e).2.1 (w9 e).1,?_⟩;have:=AN (aZ (nQ x (ws.getD 1 [])) (br (ws.getD 2 []))).l;have:=(xr (nQ x (ws.getD 1 [])) (br (ws.getD 2 []))).2;rw[bJ];have:iX.length=4:=rfl;omega
     .simp_all
    .simp_all
   .split
    .split
     .refine⟨h,?_⟩;have a:=eJ (nQ x (ws.getD 1 [])).pM.length;have b:=eJ (nQ x (ws.getD 1 [])).out.length;have c:=eJ (nQ x (ws.getD 1 [])).eX.toNat;have d:=eJ (nQ x (ws.getD 1 [])).cX.toNat;have g:tIn.length=3:=rfl;have i:zuo.length=5:=rfl;have j:zjn.length=7:=rfl;have k:zpi.length=6:=rfl;simp only[O7,bJ];omega
     .simp_all
    .simp_all
def Z8:∀{x:lI}(l:List (List UInt8)),iZ x=E->iZ (eS x l).x=E/\(eS x l).s.length<=201*l.length|_,[],h=>⟨h,by simp[eS]⟩|x,s::r,h=>by have a:=xa h (dT 32 s);have b:=Z8 r a.1;refine⟨b.1,?_⟩;simp[eS,lP,bJ,aW];omega
def Jo:∀(x:lI)(l m:List (List UInt8)),eS x (l++m)=⟨(eS (eS x l).x m).x,(eS x l).s++(eS (eS x l).x m).s⟩|x,[],m=>by simp[eS]|x,s::r,m=>by simp[eS,Jo _ r m]
open Go.Shelf
def rnI:Ren where
 f:=λn=>match n with|283=>82|129=>108|317=>107|318=>109|285=>84|_=>0
 t:=λn=>match n with|46=>127|53=>117|51=>135|37=>22|n=>n
 g:=λn=>n
def zuS:Lays.n283 aa.prog rnI:=by constructor<;>first|kernel_rfl|(intro w;kernel_rfl)
def zuR:Lays.n129 aa.prog rnI:=by constructor<;>first|kernel_rfl|(intro w;kernel_rfl)
def zuU:Lays.n317 aa.prog rnI:=by constructor<;>first|kernel_rfl|(intro w;kernel_rfl)
def zuV:Lays.n318 aa.prog rnI:=by constructor<;>first|kernel_rfl|(intro w;kernel_rfl)
def zuT:Lays.n285 aa.prog rnI:=by constructor<;>first|kernel_rfl|(intro w;kernel_rfl)
def zrm{n:Nat}(h:n<1000):lM n=im n:=by
 unfold lM chr;split;.rename_i a;rw[im,dif_pos a]
 .rename_i a;rw[im,dif_neg a];split;.rename_i b;rw[im,dif_pos Y0];rfl
  .rename_i b;rw[im,dif_neg Y0,im,dif_pos Y0,Nat.div_div_eq_div_mul];rfl
def zuY{n:Nat}(h:100<=n)(a:n<1000):AS n=3:=by rw[AS,dif_neg Y0,AS,dif_neg Y0,AS,dif_pos Y0]
def zsb{w:V}(h:Gw w){k:Nat}(a:k<20):w.cell? ⟨1,k,U⟩=C (.int .u64 ((10^k:Nat):Int)):=by
 obtain⟨T,f,e⟩:=h;unfold World.cell?;simp only[e];have:Wz[k]?=C (.int .u64 ((10^k:Nat):Int)):=by simp[Wz,a]
 simpa using this
def Yi(u:Nat)(a:100<=u)(c:u<1000)(w:V)(g:Gw w):dE aa.prog 83 #[.int .u64 u] w λe j=>e=.returned (.int .i64 3)/\j=w:=by
 have d:∀args w,(dp 108 args).run aa.prog w=.ok (.enter 108 args) w:=Rn.eM ((Rn.fM func108)) gK gK;have f:∀args w,(dp 107 args).run aa.prog w=.ok (.enter 107 args) w:=Rn.eM ((Rn.fM func107)) gK gK;have i:∀args w,(dp 109 args).run aa.prog w=.ok (.enter 109 args) w:=Rn.eM ((Rn.fM func109)) gK gK;have l:∀n:Fin 900,(Lib.l10 (pY (n.val+100))<20/\pY (n.val+100)<=64)/\Lib.l10 (pY (n.val+100))+(if 10^Lib.l10 (pY (n.val+100))<=n.val+100 then 1 else 0)=3:=by decide+kernel
 obtain⟨⟨h,L⟩,k⟩:=l ⟨u-100,Y0⟩;rw[Nat.sub_add_cancel a]at h L k;have s:=zsb g h;have o:=Any.bits_Len64 zuR (u:Int) w Y0 Y0;rw[show((u:Int)).toNat=u from rfl]at o;have p:=Any.internal_strconv_log10Pow2 zuU (pY u) L w;have r:=λb=>Any.internal_strconv_bool2_int zuV b w;generalize Lib.l10 (pY u)=q at*;generalize pY u=m at*;generalize t:10^q=T at*;have k:=hid k;go_enter((Rn.fM func83)),ntmps83;go_wp2_with(first|(refine o.mono ?_;rintro e j⟨rfl,rfl⟩)|(refine p.mono ?_;rintro e j⟨rfl,rfl⟩)|(refine(r _).mono ?_;rintro e j⟨rfl,rfl⟩));all_goals go_ret
 all_goals refine⟨?_,rfl⟩;have k:=k.out;congr 2;split at k<;>simp_all<;>omega
def XH(u:Nat)(a:u<1000)(w:V)(c:Gw w):dE aa.prog 62 #[.int .i64 u,.int .i64 10] w λe w'=>e=.returned (fR (lM u))/\cj w.heap.size w w':=by
 have o:∀args w,(dp 82 args).run aa.prog w=.ok (.enter 82 args) w:=Rn.eM ((Rn.fM func82)) gK gK;have p:∀args w,(dp 83 args).run aa.prog w=.ok (.enter 83 args) w:=Rn.eM ((Rn.fM func83)) gK gK;have q:∀args w,(dp 84 args).run aa.prog w=.ok (.enter 84 args) w:=Rn.eM ((Rn.fM func84)) gK gK;rw[zrm a];unfold fR;by_cases f:u<100
 .have y:=Any.internal_strconv_small zuS u f w;go_enter((Rn.fM func62)),ntmps62;go_wp2_with(refine y.mono ?_;rintro e w'⟨rfl,rfl⟩);go_ret;exact⟨rfl,fq _ _⟩
 .have h:=zuY (n:=u) Y0 a;have g:Gw (w.alloc (.cells re 116)):=c.below (n9 _ _);have z:=Yi u Y0 a _ g;have r:=Lib.holds_zero w 116 3 Y5;have v:=Any.internal_strconv_formatBase10 zuT w.heap.size 1 23 u (aK 3 0) (w.alloc (.cells re 116)) r (by rw[mg];omega) Y0 (by rw[mg];decide);rw[mg]at v;have s:∀W,(Instr.sliceAt 116 (.pointer (C ⟨w.heap.size,0,U⟩)) (C (.int .i64 1)) (C (.int .i64 4)) U).run aa.prog W=.ok (.slice (C ⟨w.heap.size,1,U⟩) 3 23) W:=λW=>gK;go_enter((Rn.fM func62)),ntmps62;go_wp2_with(refine z.mono ?_;rintro e w'⟨rfl,rfl⟩);refine v.mono ?_;rintro e w'⟨rfl,k,B,d,rfl,hF⟩;have i:(convert 22 9 (.slice (C ⟨w.heap.size,1,U⟩) 3 23)).run aa.prog ((Sort.putRow (λ(b:UInt8)=>cL .u8 (b.toNat:Int)) (w.alloc (.cells re 116)) w.heap.size 1 d).drewN k)=.ok (.string ⟨(im u).toArray⟩) ((Sort.putRow (λ(b:UInt8)=>cL .u8 (b.toNat:Int)) (w.alloc (.cells re 116)) w.heap.size 1 d).drewN k):=by
   have t:(im u).length=3:=by rw[Lib.decDigits_length,h]
   rw[<-h]at hF;have:=run_convert_bytes_back (P:=aa.prog) ((Sort.putRow (λ(b:UInt8)=>cL .u8 (b.toNat:Int)) (w.alloc (.cells re 116)) w.heap.size 1 d).drewN k) 22 9 5 ⟨w.heap.size,1,U⟩ 23 (im u) gK gK gK (λj A=>by rw[Lib.row_is_numeral hF j A,Lib.add_plain,World.cell?_drewN];exact Sort.cell?_putRow (λ(b:UInt8)=>cL .u8 (b.toNat:Int)) _ w.heap.size 1 _ d r (by rw[hF.size,h,mg]) j (by rw[hF.size,h];omega));rwa[t]at this
  go_wp2;go_ret;refine⟨rfl,?_⟩;obtain⟨x,l⟩:=Lib.fin_pos w (.cells re 116) d k;rw[l];refine⟨rfl,rfl,rfl,by show w.heap.size<=(w.heap++x).size;simp,λb m=>?_⟩;show(w.heap++x)[b]?=_;exact iP m
def Mf:DA [.inl .int,.inl .int]->(DV->Prop)->Prop:=λ⟨n,b,_⟩K=>af (0<=n/\n<1000)<|af (b=10)<|K (.l (.str (lM n.toNat)))
def Tm:fi aa.prog 62 [.inl .int,.inl .int] Mf:=by intro⟨(n:Int),(b:Int),_⟩K⟨f,d,hK⟩w i r g;obtain⟨l⟩:=i;match l,r with|[u,v],⟨h,c,_⟩=>replace f:(0:Int)<=n/\(n:Int)<(1000:Int):=f;have h:u=.int .i64 n:=h;have c:v=.int .i64 b:=c;subst h c d;obtain⟨m,rfl⟩:=Int.eq_ofNat_of_zero_le f.1;exact(XH m Y0 w g).mono λe j⟨a,b⟩=>⟨_,_,a,hK,b,[],⟨rfl,rfl⟩,Y1⟩
def Ls:CS:=cz [.inl .int,.inl .int] Mf
def QT:bF aa.prog 62 Ls:=bc Tm
def Vp:bK:=[(62,Ls)]
def X6:aR aa.prog Vp:=an ⟨QT,aA⟩
def zei:CS:=FQ fQ Vp eT f41
def zcm:bF aa.prog 41 zei:=eP aJ au X6 (Rn.fM func41)
def zjT:bK:=[(41,zei)]
def zaM:aR aa.prog zjT:=an ⟨zcm,aA⟩
def zjg:DA [.inl .int]->(DV->Prop)->Prop:=λ⟨n,_⟩K=>af (@LE.le Int _ 0 n/\@LT.lt Int _ n 1000)<|K (.l (.str (lM n.toNat)))
def zjH:fi aa.prog 25 [.inl .int] zjg:=by
 refine aV (TR:=eT) aJ au zaM (Rn.fM func25) rfl ?_;rintro⟨(n:Int),_⟩K⟨d,hK⟩-;replace d:(0:Int)<=n/\(n:Int)<(1000:Int):=d;repeat'(conv=>whnf);first|refine U0 ?_ ?_;exact gS|refine U1 ?_|apply gU;exact gA|refine gB ?_ ?_<;>intro b h<;>try exact bG|refineλ(y:Int)(a:0<=y)c=>?_
 (refine gI hK ?_;repeat' first|exact gR|refine U0 ?_ ?_)
def zbT:CS:=cz [.inl .int] zjg
def Vh:bF aa.prog 25 zbT:=bc zjH
end
section
open Go.RowKit
open Ab
def zjo(s:List UInt8)(c:UInt8)(w:V):dE aa.prog 53 #[fR s,fR [c]] w λe a=>e=.returned (.int .i64 (s.count c:Nat))/\a=w:=by unfold fR;go_enter(Rn.fM func53),ntmps53;go_wp2;rw[sr (Rn.fM func76) gK gK gK gK,Lib.run_countString];simp[er];rw[Oper.upon_value];go_wp2;go_ret;refine⟨?_,rfl⟩;simp[Lib.countByte];rfl
def XI(s:List UInt8)(c:UInt8)(w:V):dE aa.prog 99 #[fR s,.int .u8 c.toNat] w λe a=>e=.returned (.int .i64 (gn s c))/\a=w:=by unfold fR;go_enter(Rn.fM func99),ntmps99;go_wp2;rw[sr (Rn.fM func119) gK gK gK gK,Lib.run_indexByteString];simp[er];rw[Oper.upon_value];go_wp2;go_ret;simp_all
def zgM{α:Type}(L:List α)(i:Nat)(x:α)(h:i<L.length):(L.set i x).take (i+1)=L.take i++[x]:=by rw[c7,if_pos h,List.take_append,da,Nat.min_eq_left Y0];grind
def ZD{f:bu}{s:List (Sh⊕List Sh)}{S:DA s->(DV->Prop)->Prop}(h:∀(x:DA s)(K:DV->Prop),S x K->∀(w:V)(g:Array Y),rdA w s x g.toList->dE aa.prog f g w λe i=>∃d v,(e=.returned v/\i=w)/\K d/\frV w w.heap.size d v []):fi aa.prog f s S:=by intro x K a w g r _;apply(h x K a w g r).mono;rintro e i⟨d,v,⟨rfl,rfl⟩,b,c⟩;exact⟨d,v,rfl,b,fq _ _,[],c,Y1⟩
def zeQ:DA [.inl .str,.inl .str]->(DV->Prop)->Prop:=λ⟨s,p,_⟩K=>af (p=[p.getD 0 0])<|∀n:Int,n=(s.count (p.getD 0 0):Nat)->K (.l (.v (.int .i64 n)))
def zfO:fi aa.prog 53 [.inl .str,.inl .str] zeQ:=by refine ZD λ⟨s,p,_⟩K⟨f,hK⟩w g r=>?_;have⟨l⟩:=g;match l,r with|[u,v],⟨h,d,_⟩=>have d:=d;subst h d;generalize p.getD 0 0=c at f hK;subst f;exact(zjo s c w).mono λe i⟨a,b⟩=>⟨_,_,⟨a,b⟩,hK _ rfl,rfl,rfl,rfl⟩
def zeg:CS:=cz [.inl .str,.inl .str] zeQ
def zck:bF aa.prog 53 zeg:=bc zfO
def zgy(s:List UInt8)(c:UInt8)(w:V):dE aa.prog 77 #[fR s,fR [c]] w λe b=>e=.returned (.int .i64 (gn s c))/\b=w:=by have a:=Rn.eM (Rn.fM func99) gK gK;have h:=XI s c w;unfold fR at h⊢;cases d:([c]==s)with|true=>obtain rfl:[c]=s:=Y7;clear d;go_enter(Rn.fM func77),ntmps77;go_wp2;go_ret;simp_all[gn]|false=>go_enter(Rn.fM func77),ntmps77;go_wp2_with(apply h.mono;rintro e b⟨rfl,rfl⟩);go_ret;simp_all
def zjp(s:List UInt8)(c:UInt8)(w:V):dE aa.prog 54 #[fR s,fR [c]] w λe b=>e=.returned (.int .i64 (gn s c))/\b=w:=by have a:=Rn.eM (Rn.fM func77) gK gK;have h:=zgy s c w;unfold fR at h⊢;go_enter(Rn.fM func54),ntmps54;go_wp2_with(apply h.mono;rintro e b⟨rfl,rfl⟩);go_ret;simp_all
def zeR:DA [.inl .str,.inl .str]->(DV->Prop)->Prop:=λ⟨s,p,_⟩K=>af (p=[p.getD 0 0])<|∀n:Int,n=gn s (p.getD 0 0)->K (.l (.v (.int .i64 n)))
def zfP:fi aa.prog 54 [.inl .str,.inl .str] zeR:=by refine ZD λ⟨s,p,_⟩K⟨f,hK⟩w g r=>?_;have⟨l⟩:=g;match l,r with|[u,v],⟨h,d,_⟩=>have d:=d;subst h d;generalize p.getD 0 0=c at f hK;subst f;exact(zjp s c w).mono λe i⟨a,b⟩=>⟨_,_,⟨a,b⟩,hK _ rfl,rfl,rfl,rfl⟩
def zeh:CS:=cz [.inl .str,.inl .str] zeR
def zcl:bF aa.prog 54 zeh:=bc zfP
def X8:bK:=[(53,zeg),(54,zeh)]
def Nt:aR aa.prog X8:=an ⟨zck,zcl,aA⟩
def QD:DA [.inl .str,.inl .str,.inl .int,.inl .int]->(DV->Prop)->Prop:=λ⟨s,p,z,n,_⟩K=>af (p=[p.getD 0 0])<|af (z=0)<|af (n=-1)<|af (s.length<=100000)<|∀x,x=dT (p.getD 0 0) s->K (.l (.s 9 (.strs x)))
def XX:fi aa.prog 34 [.inl .str,.inl .str,.inl .int,.inl .int] QD:=by
 apply aV (TR:=eT) aJ au Nt (Rn.fM func34) rfl;rintro⟨s,p,z,n,_⟩K⟨T,Q,W,M,hK⟩-;generalize p.getD 0 0=c at T hK;subst T Q W;have F:decide ([c]=[])=H:=Y1;repeat'(conv=>whnf);first|apply U0;exact gS|apply gU;exact gA|intro y a b
 intro g d;have e:=Gb c s;have G:s.count c<=s.length:=mh;have d:g=((s.count c:Nat):Int):=d;generalize O:s.count c=N at*;have a:kG (g+1) (s.length+1)=g+1:=by unfold kG;split<;>omega
 repeat'((conv=>whnf);(apply U0;exact gS))
 apply dt.mI {x:Nat×List UInt8×List (List UInt8)//(x.1<=N/\x.2.1.length<=s.length)/\x.2.2.length=N+1/\x.2.2.take x.1++dT c x.2.1=dT c s} (λ⟨(i,t,_),_⟩=>[(0,.l (.str t)),(10,.l (.v (.int .i64 i)))]) (λ⟨(_,_,L),_⟩=>[(0,.r 0 9 (.strs L))]) (λ⟨(i,_,_),_⟩=>N-i) ⟨(0,s,aP (kG (g+1) (s.length+1)).toNat []),⟨Y1,Y1⟩,by simp[a];omega,Y1⟩ [0];·(repeat'(first|(apply U0;exact gV)|exact aA))
 rintro⟨⟨i,t,L⟩,⟨b,R⟩,j,f⟩;dsimp only at b R j f;have u:(dT c t).length+i=N+1:=by have:=congrArg List.length f;rw[bJ,da,j,e]at this;omega
 have B:∀x,(L.set ((i:Nat):Int).toNat x).length=N+1:=λx=>by simp[j]
 have P:=B t;repeat'(conv=>whnf);first|apply U0;exact gS|refine gB ?_ ?_<;>intro o h<;>try exact bG
 .intro m w;rcases zbV c t with⟨S,k⟩|⟨q,S,k,A⟩
  .rw[k]at u;simp[aW,fN]at u;omega
  .have w:m=(q:Nat):=w.trans S;repeat'(conv=>whnf);first|apply U0;exact gS|refine gB ?_ ?_<;>intro o h<;>try exact bG
   refine ae ⟨(i+1,(t.drop (m+([c].length:Nat)).toNat).take (((t.length:Nat):Int).toNat-(m+([c].length:Nat)).toNat),L.set ((i:Nat):Int).toNat ((t.drop (aC 0)).take ((m+0).toNat-aC 0))),?zp⟩ (ae [0] (aB ?zm ?zc));case zc=>repeat' first|refine U0 ?_ ?_;exact gV|exact aA
   case zm=>show N-(i+1)<N-i;omega
   case zp=>
    subst w;have I:((i:Nat):Int).toNat=i:=rfl;refine⟨⟨Y0,?_⟩,B _,?_⟩
    .dsimp only;simp[da,iy];omega
    .dsimp only;have J:(t.drop (((q:Nat):Int)+([c].length:Nat)).toNat).take (((t.length:Nat):Int).toNat-(((q:Nat):Int)+([c].length:Nat)).toNat)=t.drop (q+1):=by rw[show(((q:Nat):Int)+([c].length:Nat)).toNat=q+1 from rfl,aM Y1]
     rw[J,I,zgM L i _ Y0,<-f,A];simp
 .have X:i=N:=Y0;have Z:dT c t=[t]:=by
   rcases zbV c t with⟨_,k⟩|⟨q,_,_,A⟩;.exact k
   .have:=mV.2 (I1 c (t.drop (q+1)));rw[A,aW]at u;omega
  rw[Z]at f;subst X;have D:L.set ((i:Nat):Int).toNat t=dT c s:=by rw[<-f,c7,if_pos (by simp;omega)];simp[j]
  (apply gI (hK _ rfl);repeat' first|exact gR|apply U0)
  .refine⟨rfl,?_,Y0⟩;rw[D];show _=(dT c s).length;rw[e];omega
  .rw[D]
def P1:CS:=cz [.inl .str,.inl .str,.inl .int,.inl .int] QD
def Te:bF aa.prog 34 P1:=bc XX
def zf0:bK:=[(34,P1)]
def X7:aR aa.prog zf0:=an ⟨Te,aA⟩
def zeS:DA [.inl .str,.inl .str]->(DV->Prop)->Prop:=λ⟨s,p,_⟩K=>af (p=[p.getD 0 0])<|af (s.length<=100000)<|∀x,x=dT (p.getD 0 0) s->K (.l (.s 9 (.strs x)))
def zfQ:fi aa.prog 21 [.inl .str,.inl .str] zeS:=by
 apply aV (TR:=eT) aJ au X7 (Rn.fM func21) rfl;rintro⟨s,p,_⟩K⟨b,l,hK⟩-;generalize p.getD 0 0=c at b hK;subst b;repeat'((conv=>whnf);(apply U0;exact gS))
 intro x h;have h:x=dT c s:=h;subst h;repeat'(conv=>whnf);first|apply U0;exact gS|intro y a d
 (apply gI (hK _ rfl);repeat' first|exact gR|apply U0)
def Xe:CS:=cz [.inl .str,.inl .str] zeS
def P0:bF aa.prog 21 Xe:=bc zfQ
def zjM{n:Nat}(a:10<=n)(b:n<1000):lM (n/10)++[chr (n%10)]=lM n:=by unfold lM;grind
def ziN{n:Int}(h:0<=n):gz (48+n).toNat=chr n.toNat:=by grind[chr]
def Lm(m:Int):DA [.inl .int]->(DV->Prop)->Prop:=λ⟨n,_⟩K=>af (@LE.le Int _ 0 n/\@LT.lt Int _ n m)<|K (.l (.str (lM n.toNat)))
def zdl:Nat->Tr:=λn=>match n with|7=>iu [0,0,1,0,3,0,4,0,5,0,6,0] (.iY 2 1 (iu [7,1,8,1,9,1,10,2] .nil) 7 1 (.iY 2 1 (iu [8,1,9,1,10,2] .nil) 8 1 (iu [2,1,9,1,10,2] .nil)))|_=>.nil
def Xg(m:Int)(G:bK)(g:aR aa.prog G)(b:m=10\/((m=100\/m=1000)/\∃q,10*q=m/\G=[(30,cz [.inl .int] (Lm q))])):fi aa.prog 30 [.inl .int] (Lm m):=by
 apply aV (TR:=zdl) aJ au g (Rn.fM func30) rfl;rintro⟨(n:Int),_⟩K⟨i,hK⟩-;have⟨a,c⟩:=i;by_cases d:n<10
 .have e:lM n.toNat=[gz (48+n).toNat]:=by simp_all[ziN,lM,if_pos]
  rw[e]at hK;clear b;repeat'(conv=>whnf);first|apply U0;exact gS|refine gB ?_ ?_<;>intro f h<;>try exact bG
  (apply gI hK;repeat' first|exact gR|apply U0)
 .rcases b with rfl|⟨h,q,j,rfl⟩;.omega
  have e:lM n.toNat=lM (n/10).toNat++[gz (48+n%10).toNat]:=by rw[ziN Y0,show(n/10).toNat=n.toNat/10 by omega,show(n%10).toNat=n.toNat%10 by omega,zjM Y0 Y0]
  rw[e]at hK;have l:=eJ (n/10).toNat;repeat'(conv=>whnf);first|apply U0;exact gS|apply dS.mk;exact wP|apply U1|apply gU;exact gA|refine gB ?_ ?_<;>intro f h<;>try exact bG
  all_goals(apply gI hK;repeat' first|exact gR|apply U0)
def zjE:fi aa.prog 30 [.inl .int] (Lm 10):=Xg 10 [] (an trivial) (.inl rfl)
def zjF:fi aa.prog 30 [.inl .int] (Lm 100):=Xg 100 [(30,cz [.inl .int] (Lm 10))] (an ⟨bc zjE,aA⟩) (.inr ⟨.inl rfl,10,rfl,rfl⟩)
def zjG:fi aa.prog 30 [.inl .int] (Lm 1000):=Xg 1000 [(30,cz [.inl .int] (Lm 100))] (an ⟨bc zjF,aA⟩) (.inr ⟨.inr rfl,100,rfl,rfl⟩)
def xp:CS:=cz [.inl .int] (Lm 1000)
def sN:bF aa.prog 30 xp:=bc zjG
variable{s:List UInt8}{i:Nat}
def zen(h:i<s.length):s.drop i=s.getD i 0::s.drop (i+1):=by simp_all
variable{a:Nat}
def zk2(h:i<s.length)(b:a<=i):(s.drop a).take (i+1-a)=(s.drop a).take (i-a)++[s.getD i 0]:=by rw[show i+1-a=i-a+1 by omega,cW];simp_all
variable{c:UInt8}
def zvy{x:UInt8}(h:((x.toNat:Nat):Int)=(c.toNat:Nat)):x=c:=UInt8.toNat_inj.1 Y0
def Le(c:UInt8)(s:List UInt8)(a i:Nat)(L:List (List UInt8)):Prop:=a<=i/\i<=s.length/\L.length<=i/\L++YS ((s.drop a).take (i-a)) (dT c (s.drop i))=dT c s
def zem(c:UInt8)(s:List UInt8):Le c s 0 0 []:=⟨ao _,a7 _,ao _,by simp[ZX]⟩
variable{L:List (List UInt8)}
def Vm(h:Le c s a i L)(g:i<s.length)(j:(((s.getD i 0).toNat:Nat):Int)=(c.toNat:Nat)):Le c s (i+1) (i+1) (L++[(s.drop a).take (i-a)]):=by have⟨d,e,f,b⟩:=h;refine⟨ao _,g,by simp;omega,?_⟩;rw[zen g,zvy j,zmX]at b;simp_all[Nat.sub_self,cT,ZX]
def ZF(h:Le c s a i L)(j:i<s.length)(k:¬(((s.getD i 0).toNat:Nat):Int)=(c.toNat:Nat)):Le c s a (i+1) L:=by have⟨b,f,g,d⟩:=h;refine⟨Y0,j,Y0,?_⟩;rw[zen j,zrl (λe=>k (by rw[e]))]at d;rwa[zk2 j b]
def Vl(h:Le c s a s.length L):L++[s.drop a]=dT c s:=by have h:=h.2.2.2;rw[List.drop_length]at h;rw[<-h];have:(s.drop a).take (s.length-a)=s.drop a:=aM Y1;simp_all[YS,dT]
def zyW(l:List (List UInt8)):DV:=.l (.s 9 (.strs l))
def Yf:bK:=[]
def NY:aR aa.prog Yf:=an trivial
def QH:DA [.inl .str]->(DV->Prop)->Prop:=λ⟨s,_⟩K=>af (s.length<=100000)<|∀x,x=dT 32 s->K (zyW x)
def X3:fi aa.prog 44 [.inl .str] QH:=by
 apply aV (TR:=eT) aJ au NY (Rn.fM func44) rfl;rintro⟨s,_⟩K⟨b,hK⟩-;have b:=b;repeat'((conv=>whnf);(apply U0;exact gS))
 apply dt.mI {x:Nat×Nat×List (List UInt8)//Le 32 s x.1 x.2.1 x.2.2} (λ⟨(a,i,_),_⟩=>[(3,.l (.s 0 0)),(4,.l (.v (.int .i64 a))),(5,.l (.v (.int .i64 i))),(6,.j)]) (λ⟨(_,_,L),_⟩=>[(0,.r 0 9 (.strs L))]) (λ⟨(_,i,_),_⟩=>s.length-i) ⟨(0,0,[]),zem 32 s⟩ [0];·(repeat'(first|(apply U0;exact gV)|exact aA))
 rintro⟨⟨a,i,L⟩,k⟩;have⟨d,e,f,_⟩:=k;dsimp only at d e f;repeat'(conv=>whnf);first|apply U0;exact gS|refine gB ?_ ?_<;>intro c h<;>try exact bG
 .have m:i<s.length:=Y0;have n:=Vm k m h;refine ae ⟨(i+1,i+1,L++[(s.drop ((a:Nat):Int).toNat).take (((i:Nat):Int).toNat-((a:Nat):Int).toNat)]),?zp⟩ (ae [0] (aB ?zm ?zc));case zc=>(repeat'(first|(apply U0;exact gV)|exact aA))
  case zm=>show s.length-(i+1)<s.length-i;omega
  case zp=>exact n
 .have m:i<s.length:=Y0;have n:=ZF k m h;refine ae ⟨(a,i+1,L),?zp⟩ (ae [0] (aB ?zm ?zc));case zc=>(repeat'(first|(apply U0;exact gV)|exact aA))
  case zm=>show s.length-(i+1)<s.length-i;omega
  case zp=>exact n
 .obtain rfl:i=s.length:=Y0;have g:=Vl k;(apply gI (hK _ rfl);repeat' first|exact gR|apply U0);rw[aM Y1];simp_all
def P3:CS:=cz [.inl .str] QH
def Tg:bF aa.prog 44 P3:=bc X3
def NZ:bK:=[(89,jf)]
def FH:aR aa.prog NZ:=an ⟨eZ,aA⟩
def wG:DA [.inl .str]->(DV->Prop)->Prop:=λ⟨s,_⟩K=>K (.l (.v (.int .i64 (br s))))
def Nr:fi aa.prog 66 [.inl .str] wG:=by apply aV (TR:=eT) aJ au FH (Rn.fM func66) rfl;rintro⟨(s:List UInt8),_⟩K hK⟨l,-⟩;dsimp only[wG]at hK;match s,hK,l with
 |[],hK,l=>
  have n:(([]:List UInt8).length:Int)=0:=rfl;repeat'(conv=>whnf);first|apply U0;exact gS|apply gU;exact gA
  (apply gI hK;repeat' first|exact gR|apply U0);rfl|[a],hK,l=>
  have n:([a].length:Int)=1:=rfl;repeat'(conv=>whnf);first|apply U0;exact gS|apply gU;exact gA
  apply dt.it 2;repeat'(conv=>whnf);first|apply U0;exact gS|apply gU;exact gA|refine gB ?_ ?_<;>intro e h<;>try exact bG
  all_goals(refine gI hK ?_;repeat' first|exact gR|apply U0);(clear hK;simp only[show(0:Int).toNat=0 from rfl,ca,br,uU,SB,aj,decide_eq_true_eq]at*;split<;>omega)|[a,b],hK,l=>
  have n:([a,b].length:Int)=2:=rfl;repeat'(conv=>whnf);first|apply U0;exact gS|apply gU;exact gA|refine gB ?_ ?_<;>intro e h<;>try exact bG
  ·(refine gI hK ?_;repeat' first|exact gR|refine U0 ?_ ?_);(clear hK;simp only[show(0:Int).toNat=0 from rfl,ca,br,uU,SB,aj,decide_eq_true_eq]at*;split<;>omega)
  refine dt.it 3 ?_;repeat'(conv=>whnf);first|apply U0;exact gS|apply gU;exact gA|refine gB ?_ ?_<;>intro e h<;>try exact bG
  all_goals(refine gI hK ?_;repeat' first|exact gR|apply U0);(clear hK;simp only[show(0:Int).toNat=0 from rfl,show((0:Int)+1).toNat=1 from rfl,ca,cU,br,uU,SB,aj,decide_eq_true_eq]at*;split<;>omega)|[a,b,c],hK,l=>
  have n:([a,b,c].length:Int)=3:=rfl;repeat'(conv=>whnf);first|refine U0 ?_ ?_;exact gS|apply gU;exact gA|refine gB ?_ ?_<;>intro e h<;>try exact bG
  ·(apply gI hK;repeat' first|exact gR|apply U0);(clear hK;simp only[show(0:Int).toNat=0 from rfl,ca,br,uU,SB,aj,decide_eq_true_eq]at*;split<;>omega)
  apply dt.it 4;repeat'(conv=>whnf);first|apply U0;exact gS|apply gU;exact gA|refine gB ?_ ?_<;>intro e h<;>try exact bG
  all_goals(refine gI hK ?_;repeat' first|exact gR|apply U0);(clear hK;simp only[show(0:Int).toNat=0 from rfl,show((0:Int)+1).toNat=1 from rfl,show((0:Int)+1+1).toNat=2 from rfl,ca,cU,br,uU,SB,aj,decide_eq_true_eq]at*;split<;>omega)|a::b::c::d::r,hK,l=>
  have n:(!(decide (1<=((a::b::c::d::r).length:Int))&&decide (((a::b::c::d::r).length:Int)<=3)))=E:=by simp only[aW,Bool.not_eq_true',Bool.and_eq_false_iff,decide_eq_false_iff_not];omega
  repeat'(conv=>whnf);first|apply U0;exact gS|apply gU;exact gA
  (apply gI hK;repeat' first|exact gR|apply U0);rfl
def qI:CS:=cz [.inl .str] wG
def ql:bF aa.prog 66 qI:=bc Nr
def Ks:bK:=[(70,nD),(89,jf),(92,rB)]
def Dk:aR aa.prog Ks:=an ⟨nN,eZ,pd,aA⟩
def ug:DA [lN,.inl .int]->(DV->Prop)->Prop:=λ⟨⟨f,c,n,p,o,r,rt,e,t,g,s,u,v,h,w,i,a,b,q,j,k,l,_⟩,m,_⟩K=>K (aZ ⟨⟨⟨f,c,n⟩,p,o,⟨r,rt,e,t,g⟩,⟨s,u,v,h⟩,⟨w,i,a,b⟩⟩,q,j,k,l⟩ m).d
def J8:fi aa.prog 69 [lN,.inl .int] ug:=by
 apply aV (TR:=eT) aJ au Dk (Rn.fM func69) rfl;dsimp only[DA,HL,Sh.T];rintro⟨⟨f,d,l,p,x,g,rt,r,y,i,s,z,A,j,B,k,a,b,q,c,n,o,_⟩,m,_⟩K hK⟨⟨-,-,-,-,-,-,-,M,-,-,-,N,-,-,-,-,-,-,F,G,-⟩,-⟩;dsimp only[ug]at hK;have F:=gl q F;have G:=gl c G;by_cases I:eR ⟨⟨⟨f,d,l⟩,p,x,⟨g,rt,r,y,i⟩,⟨s,z,A,j⟩,⟨B,k,a,b⟩⟩,q,c,n,o⟩=E/\0<=m/\m<=32
 .have⟨D,O,P⟩:=I;have e:aZ ⟨⟨⟨f,d,l⟩,p,x,⟨g,rt,r,y,i⟩,⟨s,z,A,j⟩,⟨B,k,a,b⟩⟩,q,c,n,o⟩ m=⟨⟨⟨⟨f,d,l⟩,p,x,⟨g,rt,r,y,i⟩,⟨s,z,A,j⟩,⟨B,k,a,b⟩⟩,q.drop m.toNat,c,n,o⟩,q.take m.toNat,E⟩:=by simp_all[aZ,if_pos]
  rw[e]at hK;have w:0<=kG m q.length/\kG m q.length<=q.length:=by grind[kG]
  have u:(q.drop (aC 0)).take ((kG m q.length).toNat-aC 0)=q.take m.toNat:=by grind[kG,aM]
  have v:(q.drop (kG m q.length).toNat).take (((q.length:Nat):Int).toNat-(kG m q.length).toNat)=q.drop m.toNat:=by simp_all[aM,kG,cK]
  rw[<-u,<-v]at hK;have J:(!(decide (0<=m)&&decide (m<=32)))=H:=Y7;repeat'(conv=>whnf);first|apply U0;exact gS|apply gU;exact gA|(apply na;focus(simp[eq_self,D];done))
  all_goals exact gF hK
 .have e:aZ ⟨⟨⟨f,d,l⟩,p,x,⟨g,rt,r,y,i⟩,⟨s,z,A,j⟩,⟨B,k,a,b⟩⟩,q,c,n,o⟩ m=⟨FT,[],H⟩:=by simp_all[aZ,if_neg]
  rw[e]at hK;cases D:eR ⟨⟨⟨f,d,l⟩,p,x,⟨g,rt,r,y,i⟩,⟨s,z,A,j⟩,⟨B,k,a,b⟩⟩,q,c,n,o⟩with
  |false=>
   repeat'(conv=>whnf);first|apply U0;exact gS|apply gU;exact gA|(apply qM;focus(simp[eq_self,D];done))|apply gB<;>intro t h<;>try exact bG
   all_goals exact gF hK|true=>
   have J:(!(decide (0<=m)&&decide (m<=32)))=E:=by grind
   repeat'(conv=>whnf);first|apply U0;exact gS|apply gU;exact gA|(apply na;focus(simp only[gQ,eq_self,D];done))
   all_goals exact gF hK
def BE:CS:=cz [lN,.inl .int] ug
def HT:bF aa.prog 69 BE:=bc J8
def J5:fi aa.prog 28 [.inl .int,.inl .int] (λ⟨r,t,_⟩K=>K (u3 r t).d):=by refine aV (TR:=eT) aJ au Fu (Rn.fM func28) rfl ?_;rintro⟨(r:Int),(t:Int),_⟩K hK-;replace hK:K (u3 r t).d:=hK;cases h:eL (wW r t)with
 |false=>
  have e:pF r t=⟨Ej,H⟩:=by simp[pF,h]
  rw[show u3 r t=⟨FT,H⟩by simp[u3,h]]at hK;repeat'(conv=>whnf);first|refine U0 ?_ ?_;exact gS|(refine qM ?_ ?_;focus(simp only[gQ,eq_self,e];done))|refineλ(y:Int)(a:0<=y)c=>?_
  all_goals exact gF hK|true=>
  have e:pF r t=⟨wW r t,E⟩:=by simp[pF,h]
  rw[show u3 r t=⟨zia r t,E⟩by simp[u3,h]]at hK;repeat'(conv=>whnf);first|refine U0 ?_ ?_;exact gS|(refine na ?_ ?_;focus(simp only[gQ,eq_self,e];done))|refineλ(y:Int)(a:0<=y)c=>?_
  all_goals(refine gI hK ?_;repeat' first|exact gR|refine U0 ?_ ?_);all_goals first|exact rfl|(rw[e];rfl)
abbrev zN:List Sh:=match oG with|.inr l=>l|.inl _=>[]
def parts(b:Bool)(d:fe):List (Option DL):=match b with|true=>aP 22 U|false=>d.d.map C
abbrev KO:Type:=Nat->List (Option DL)->Option (List UInt8)->Prop
def Ec(x:lI)(y:SG)(K:KO):Prop:=∀(z:SG)(a b:Bool),z=y->(a=E->z.x.a=x.a)->(b=E->z.x.b=x.b)->K 0 (parts a z.x.a++parts b z.x.b) (C (z.s++[10]))
def gOw{D a:Type}{M K:Nat->D->a->Prop}{n:Nat}{d:D}{s:a}(hK:K n d s)(h:M n d s):∃n d s,M n d s/\K n d s:=Y8
variable{x:lI}{K:KO}
def tk(h:Ec x ⟨x,s⟩ K):K 0 (aP 44 U) (C (s++[10])):=h ⟨x,s⟩ E E rfl (λ_=>rfl) (λ_=>rfl)
def zmE{y:lI}(h:Ec x ⟨y,s⟩ K):K 0 (parts H y.a++parts H y.b) (C (s++[10])):=h ⟨y,s⟩ H H rfl (λe=>dO e) (λe=>dO e)
def zot{d:fe}(h:Ec x ⟨⟨d,x.b⟩,s⟩ K):K 0 (parts H d++parts E x.b) (C (s++[10])):=h ⟨⟨d,x.b⟩,s⟩ H E rfl (λe=>dO e) (λ_=>rfl)
def zou{d:fe}(h:Ec x ⟨⟨x.a,d⟩,s⟩ K):K 0 (parts E x.a++parts H d) (C (s++[10])):=h ⟨⟨x.a,d⟩,s⟩ E H rfl (λ_=>rfl) (λe=>dO e)
def Uj:bK:=[]
def KV:aR aa.prog Uj:=an trivial
def Mn:HL zN->DA [.inl .str]->KO->Prop:=λ⟨e,g,f,p,h,r,i,j,k,l,s,n,o,q,t,u,m,a,v,x,y,z,A,B,b,W,D,X,F,G,Z,I,J,L,M,N,O,P,c,d,Q,R,S,T,_⟩⟨w,_⟩K=>Br (decide (w=[98])) (K 22 (aP 22 U) U) (K 0 (aP 22 U) U)
def TO:zbt aa.prog 49 zN [.inl .str] Mn:=by apply F9 (TR:=eT) aJ au KV (Rn.fM func49) rfl;rintro⟨e,g,f,p,i,r,j,k,l,n,s,o,q,t,v,x,m,a,z,A,B,h,D,X,b,F,G,Q0,I,J,L,M,N,O,P,Q,R,S,c,d,T,Q1,Q2,W,_⟩⟨w,_⟩K hK-u-;cases hw:decide (w=[98])with
 |true=>
  repeat'(conv=>whnf);first|apply U0;exact gS|apply gU;exact gA|intro y Q3 Z
  apply gOw (zy hK hw);repeat' first|exact gR|apply U0
 |false=>
  repeat'(conv=>whnf);first|apply U0;exact gS|apply gU;exact gA|intro y Q3 Z
  apply gOw (uR hK hw);repeat' first|exact gR|apply U0
def vl:CS:=IM zN [.inl .str] Mn
def tS:bF aa.prog 49 vl:=O8 TO
def DY:bK:=[]
def KY:aR aa.prog DY:=an trivial
def AZ:CS:=FQ fQ DY eT f68
def BL:bF aa.prog 68 AZ:=eP aJ au KY (Rn.fM func68)
def Yg:bK:=[(65,LG),(66,qI)]
def N1:aR aa.prog Yg:=an ⟨Q7,ql,aA⟩
def za9:Nat->Tr:=λn=>match n with|1=>iu [0,0,1,0] (.iY 2 1 (.iY 3 1 (iu [4,0,5,0,6,0,7,1,8,1,9,2] .nil) 7 1 (iu [3,1,4,1,5,0,6,0,8,1,9,2] .nil)) 7 1 (iu [2,1,3,1,4,1,5,0,6,0,8,1,9,2] .nil))|_=>.nil
def EU:HL zN->DA [.inl .str]->KO->Prop:=λ⟨e,g,f,p,h,r,i,j,k,l,s,n,o,q,t,u,m,a,v,x,y,z,A,B,b,W,D,X,F,G,Z,I,J,L,M,N,O,P,c,d,Q,R,S,T,_⟩⟨w,_⟩K=>Ec ⟨⟨⟨⟨e,g,f⟩,p,h,⟨r,i,j,k,l⟩,⟨s,n,o,q⟩,⟨t,u,m,a⟩⟩,v,x,y,z⟩,⟨⟨⟨A,B,b⟩,W,D,⟨X,F,G,Z,I⟩,⟨J,L,M,N⟩,⟨O,P,c,d⟩⟩,Q,R,S,T⟩⟩ (S7 ⟨⟨⟨⟨e,g,f⟩,p,h,⟨r,i,j,k,l⟩,⟨s,n,o,q⟩,⟨t,u,m,a⟩⟩,v,x,y,z⟩,⟨⟨⟨A,B,b⟩,W,D,⟨X,F,G,Z,I⟩,⟨J,L,M,N⟩,⟨O,P,c,d⟩⟩,Q,R,S,T⟩⟩ (br w)) K
def X4:zbt aa.prog 45 zN [.inl .str] EU:=by apply F9 (TR:=za9) aJ au N1 (Rn.fM func45) rfl;rintro⟨l,n,f,p,t,v,x,r,z,A,B,s,h,D,Q0,F,m,a,q,b,G,Q1,I,J,c,L,M,N,O,d,P,Q,R,e,S,T,Q2,Q3,g,i,j,k,W,X,_⟩⟨w,_⟩K hK-u;dsimp only[EU]at hK;rintro⟨-,-,-,-,-,-,-,h1,-,-,-,h2,-,-,-,-,-,-,h3,h4,-,-,-,-,-,-,-,-,-,g1,-,-,-,g2,-,-,-,-,-,-,g3,g4,-⟩;have h1:=gl r h1;unfold S7 at hK;cases o:(mJ ⟨⟨⟨⟨l,n,f⟩,p,t,⟨v,x,r,z,A⟩,⟨B,s,h,D⟩,⟨Q0,F,m,a⟩⟩,q,b,G,Q1⟩,⟨⟨⟨I,J,c⟩,L,M,⟨N,O,d,P,Q⟩,⟨R,e,S,T⟩,⟨Q2,Q3,g,i⟩⟩,j,k,W,X⟩⟩ (br w)).ok with
 |true=>
  rw[if_pos o]at hK;repeat'(conv=>whnf);first|apply U0;exact gS|apply dS.mk;exact wP|apply U1|(apply na;focus(simp only[gQ,eq_self,o];done))|intro y Z h1
  all_goals
   apply gOw (zmE hK);repeat' first|exact gR|apply U0
   all_goals rfl|false=>
  rw[if_neg (bV.1 o)]at hK;repeat'(conv=>whnf);first|apply U0;exact gS|apply dS.mk;exact wP|apply U1|(apply qM;focus(simp only[gQ,eq_self,o];done))|intro y Z h1
  all_goals
   apply gOw (tk hK);repeat' first|exact gR|apply U0
   all_goals rfl
def P4:CS:=IM zN [.inl .str] EU
def Ti:bF aa.prog 45 P4:=O8 X4
variable{w:List UInt8}
def YX(h:pz w=E):(w=[98]/\decide (w=[97])=H/\decide (w=[98])=E)\/(w≠[98]/\decide (w=[97])=E/\decide (w=[98])=H):=by grind[pz]
def ztZ(w:List UInt8):(w=MG/\decide (w=MG)=E/\decide (w=y3)=H/\decide (w=y4)=H/\decide (w=tj)=H)\/(w=y3/\decide (w=MG)=H/\decide (w=y3)=E/\decide (w=y4)=H/\decide (w=tj)=H)\/(w=y4/\decide (w=MG)=H/\decide (w=y3)=H/\decide (w=y4)=E/\decide (w=tj)=H)\/(w=tj/\decide (w=MG)=H/\decide (w=y3)=H/\decide (w=y4)=H/\decide (w=tj)=E)\/((w≠MG/\w≠y3/\w≠y4/\w≠tj)/\decide (w=MG)=H/\decide (w=y3)=H/\decide (w=y4)=H/\decide (w=tj)=H):=by
 by_cases h:w=MG;.subst h;exact .inl ⟨rfl,rfl,rfl,rfl,rfl⟩
 by_cases a:w=y3;.subst a;exact .inr (.inl ⟨rfl,rfl,rfl,rfl,rfl⟩)
 by_cases b:w=y4;.subst b;exact .inr (.inr (.inl ⟨rfl,rfl,rfl,rfl,rfl⟩))
 grind
def VB{ws:List (List UInt8)}(h:ws.getD 0 []=MG):pD x ws=if ws.length=2 then S7 x (br (ws.getD 1 []))else⟨x,oJ⟩:=by simp_all[pD,if_pos]
def Qp{ws:List (List UInt8)}(h:ws.getD 0 []=y3):pD x ws=if 3<=ws.length/\pz (ws.getD 1 [])=E then Aj x (ws.getD 1 []) ((ws.drop 2).map br)else⟨x,oJ⟩:=by unfold pD;rw[if_neg (by rw[h];decide),if_pos h]
def Qq{ws:List (List UInt8)}(h:ws.getD 0 []=y4):pD x ws=if ws.length=3/\pz (ws.getD 1 [])=E then Al x (ws.getD 1 []) (br (ws.getD 2 []))else⟨x,oJ⟩:=by unfold pD;rw[if_neg (by rw[h];decide),if_neg (by rw[h];decide),if_pos h]
def Ma{ws:List (List UInt8)}(h:ws.getD 0 []=tj):pD x ws=if ws.length=2/\pz (ws.getD 1 [])=E then⟨x,O7 (nQ x (ws.getD 1 []))⟩else⟨x,oJ⟩:=by unfold pD;rw[if_neg (by rw[h];decide),if_neg (by rw[h];decide),if_neg (by rw[h];decide),if_pos h]
def zeX(x:lI)(l:List Int):Aj x [98] l=if(dZ x.b l).ok=E then⟨⟨x.a,(dZ x.b l).x⟩,tOk⟩else⟨x,SL⟩:=rfl
def zeW(x:lI)(h:w≠[98])(l:List Int):Aj x w l=if(dZ x.a l).ok=E then⟨⟨(dZ x.a l).x,x.b⟩,tOk⟩else⟨x,SL⟩:=by simp[Aj,nQ,U2,h]
variable{k:Nat}
def zaz{l:List (List UInt8)}(h:k<l.length):(l.map br).take (k+1)=(l.map br).take k++[br (l.getD ((k:Nat):Int).toNat [])]:=by simp_all[cW,List.getElem?_map,bA,aN]
def Ui:bK:=[(66,qI),(49,vl),(67,BD),(68,AZ)]
def KU:aR aa.prog Ui:=an ⟨ql,tS,HS,BL,aA⟩
def Mm:HL zN->DA [.inl .str,.inl .strs]->KO->Prop:=λ⟨e,g,f,p,h,r,i,j,k,n,s,o,q,t,u,v,m,a,x,y,z,A,B,W,b,D,X,F,G,Z,I,J,L,M,N,O,P,Q,c,d,R,S,T,Q0,_⟩⟨w,l,_⟩K=>af (pz w=E)<|af (l.length<=100001)<|Ec ⟨⟨⟨⟨e,g,f⟩,p,h,⟨r,i,j,k,n⟩,⟨s,o,q,t⟩,⟨u,v,m,a⟩⟩,x,y,z,A⟩,⟨⟨⟨B,W,b⟩,D,X,⟨F,G,Z,I,J⟩,⟨L,M,N,O⟩,⟨P,Q,c,d⟩⟩,R,S,T,Q0⟩⟩ (Aj ⟨⟨⟨⟨e,g,f⟩,p,h,⟨r,i,j,k,n⟩,⟨s,o,q,t⟩,⟨u,v,m,a⟩⟩,x,y,z,A⟩,⟨⟨⟨B,W,b⟩,D,X,⟨F,G,Z,I,J⟩,⟨L,M,N,O⟩,⟨P,Q,c,d⟩⟩,R,S,T,Q0⟩⟩ w (l.map br)) K
def TN:zbt aa.prog 46 zN [.inl .str,.inl .strs] Mm:=by
 apply F9 (TR:=eT) aJ au KU (Rn.fM func46) rfl;rintro⟨D,y,f,F,G,Q0,I,o,J,L,M,p,N,O,P,Q,b,c,q,t,R,S,T,Q1,d,Q2,W,X,Q3,z,Z,k8,k9,A,lf,jv,ju,iW,g,i,B,Q4,sw,lK,_⟩⟨w,l,_⟩K⟨hs,hl,hK⟩-u;have hK:Ec _ (Aj _ w (l.map br)) K:=hK;have hl:l.length<=100001:=hl;rintro⟨-,-,-,-,-,-,-,h1,-,-,-,h2,-,-,-,-,-,-,h3,h4,-,-,-,-,-,-,-,-,-,g1,-,-,-,g2,-,-,-,-,-,-,g3,g4,-⟩;have h1:=gl o h1;have h2:=gl p h2;have h3:=gl q h3;have h4:=gl t h4;have g1:=gl z g1;have g2:=gl A g2;have g3:=gl B g3;have g4:=gl Q4 g4;rcases YX hs with⟨rfl,s1,s2⟩|⟨w1,s1,s2⟩
 .rw[zeX]at hK;have hY:∀m,m=l.map br->(dZ _ m).ok=E->K 0 (parts E _++parts H (dZ _ m).x) (C (tOk++[10])):=λm e h=>by subst e;rw[if_pos h]at hK;exact zou hK
  have hN:∀m,m=l.map br->(dZ _ m).ok=H->K 0 (aP 44 U) (C (SL++[10])):=λm e h=>by subst e;rw[if_neg (bV.1 h)]at hK;exact tk hK
  clear hK;repeat'((conv=>whnf);(apply U0;exact gS))
  apply dt.mI {k:Nat//k<=l.length} (λ⟨k,_⟩=>[(8,.l (.s 2 0)),(9,.l (.v (.int .i64 k))),(12,.j)]) (λ⟨k,_⟩=>[(2,.r 0 3 (.bn ((l.map br).take k)))]) (λ⟨k,_⟩=>l.length-k) ⟨0,a7 _⟩ [0,1,2];.repeat'(first|(apply U0;focus(first|(simp[cT];done)|(simp[cT];done)|exact⟨rfl,aA⟩|exact⟨rfl,rfl,aA⟩|rfl))|exact aA)
  rintro⟨k,hk⟩;repeat'(conv=>whnf);first|refine U0 ?_ ?_;exact gS|apply gU;exact gA|refine gB ?_ ?_<;>intro hb h<;>try exact bG
  .have a:k<l.length:=Y0;have n:=zaz a;(refine ae ⟨k+1,a⟩ (ae [0,1,2] (aB ?_ ?_)));.show l.length-(k+1)<l.length-k;omega
   .repeat'(first|(apply U0;focus(first|(simp[n];done)|(simp[n];done)|exact⟨rfl,aA⟩|exact⟨rfl,rfl,aA⟩|exact rfl))|exact aA)
  all_goals
   have a:(l.map br).take k=l.map br:=aM (by simp;omega)
   first|(
    apply gOw (hY _ a Y3);repeat' first|exact gR|apply U0
    all_goals rfl)|(
    apply gOw (hN _ a Y3);repeat' first|exact gR|apply U0
    all_goals rfl)
 .rw[zeW _ w1]at hK;have hY:∀m,m=l.map br->(dZ _ m).ok=E->K 0 (parts H (dZ _ m).x++parts E _) (C (tOk++[10])):=λm e h=>by subst e;rw[if_pos h]at hK;exact zot hK
  have hN:∀m,m=l.map br->(dZ _ m).ok=H->K 0 (aP 44 U) (C (SL++[10])):=λm e h=>by subst e;rw[if_neg (bV.1 h)]at hK;exact tk hK
  clear hK;repeat'((conv=>whnf);(apply U0;exact gS))
  apply dt.mI {k:Nat//k<=l.length} (λ⟨k,_⟩=>[(8,.l (.s 2 0)),(9,.l (.v (.int .i64 k))),(12,.j)]) (λ⟨k,_⟩=>[(2,.r 0 3 (.bn ((l.map br).take k)))]) (λ⟨k,_⟩=>l.length-k) ⟨0,a7 _⟩ [0,1,2];.repeat'(first|(apply U0;focus(first|(simp[cT];done)|(simp[cT];done)|exact⟨rfl,aA⟩|exact⟨rfl,rfl,aA⟩|rfl))|exact aA)
  rintro⟨k,hk⟩;repeat'(conv=>whnf);first|refine U0 ?_ ?_;exact gS|apply gU;exact gA|refine gB ?_ ?_<;>intro hb h<;>try exact bG
  .have a:k<l.length:=Y0;have n:=zaz a;(refine ae ⟨k+1,a⟩ (ae [0,1,2] (aB ?_ ?_)))
   .show l.length-(k+1)<l.length-k;omega
   .repeat'(first|(apply U0;focus(first|(simp[n];done)|(simp[n];done)|exact⟨rfl,aA⟩|exact⟨rfl,rfl,aA⟩|exact rfl))|exact aA)
  all_goals
   have a:(l.map br).take k=l.map br:=aM (by simp;omega)
   first|(
    apply gOw (hY _ a Y3);repeat' first|exact gR|apply U0
    all_goals rfl)|(
    apply gOw (hN _ a Y3);repeat' first|exact gR|apply U0
    all_goals rfl)
def LY:CS:=IM zN [.inl .str,.inl .strs] Mm
def Rj:bF aa.prog 46 LY:=O8 TN
def ze8(x:lI)(n:Int):Al x [98] n=if(aZ x.b n).ok=E then⟨⟨x.a,(aZ x.b n).x⟩,iX++gZ (aZ x.b n).l⟩else⟨x,SL⟩:=rfl
def ze7(x:lI)(h:w≠[98])(n:Int):Al x w n=if(aZ x.a n).ok=E then⟨⟨(aZ x.a n).x,x.b⟩,iX++gZ (aZ x.a n).l⟩else⟨x,SL⟩:=by simp[Al,nQ,U2,h]
def Gv{l:List Int}(h:iw l=E)(a:k<l.length):0<=l.getD k 0/\l.getD k 0<1000:=by
 have:ed (l.getD k 0)=E:=by cases b:ed (l.getD k 0)with|true=>rfl|false=>exact absurd h (by rw[tE l k a b];decide)
 simp only[ed,aj,decide_eq_true_eq]at this;omega
def JF{l:List Int}(h:k<l.length):iX++gZ (l.take (k+1))=((iX++gZ (l.take k))++[32])++lM (l.getD ((k:Nat):Int).toNat 0).toNat:=by
 have e:l.take (k+1)=l.take k++[l.getD k 0]:=by rw[cW,bA,aN h];rfl
 rw[e,zgP];simp
def Sp:bK:=[(30,xp)]
def IB:aR aa.prog Sp:=an ⟨sN,aA⟩
def UF:Nat->Tr:=λn=>match n with|1=>iu [0,0,1,0,2,0,6,0,7,0,8,0,12,0,13,0,17,0,18,0,3,1,4,0,5,0,9,1,10,0,11,0,14,1,15,0,16,0,19,1,20,1,21,1,22,2] .nil|_=>.nil
def Hw:DA [lN]->(DV->Prop)->Prop:=λ⟨⟨f,b,k,p,n,r,rt,c,o,d,s,t,u,e,v,g,m,a,q,h,i,j,_⟩,_⟩K=>af (eR ⟨⟨⟨f,b,k⟩,p,n,⟨r,rt,c,o,d⟩,⟨s,t,u,e⟩,⟨v,g,m,a⟩⟩,q,h,i,j⟩=E)<|K (.l (.str (O7 ⟨⟨⟨f,b,k⟩,p,n,⟨r,rt,c,o,d⟩,⟨s,t,u,e⟩,⟨v,g,m,a⟩⟩,q,h,i,j⟩++[10])))
def RP:fi aa.prog 48 [lN] Hw:=by
 refine aV (TR:=UF) aJ au IB (Rn.fM func48) rfl ?_;dsimp only[DA,HL,Sh.T];rintro⟨⟨f,e,A,p,D,r,rt,g,F,i,s,G,I,j,J,k,m,a,q,b,c,d,_⟩,_⟩K⟨B,hK⟩⟨⟨-,-,-,-,-,-,-,n,-,-,-,o,-,-,-,-,-,-,t,u,-⟩,-⟩;replace B:eR ⟨⟨⟨f,e,A⟩,p,D,⟨r,rt,g,F,i⟩,⟨s,G,I,j⟩,⟨J,k,m,a⟩⟩,q,b,c,d⟩=E:=B;clear n o t u;replace hK:K (.l (.str (O7 ⟨⟨⟨f,e,A⟩,p,D,⟨r,rt,g,F,i⟩,⟨s,G,I,j⟩,⟨J,k,m,a⟩⟩,q,b,c,d⟩++[10]))):=hK;obtain⟨-,⟨L,-⟩,⟨M,-⟩,N,O⟩:=dw B;dsimp only at L M N O;have v:=eJ ((q.length:Nat):Int).toNat;have w:=eJ ((b.length:Nat):Int).toNat;have x:=eJ c.toNat;have y:=eJ d.toNat;repeat'(conv=>whnf);first|refine U0 ?_ ?_;exact gS|refine U1 ?_|apply gU;exact gA|refine gB ?_ ?_<;>intro z h<;>try exact bG
 all_goals(refine gI hK ?_;repeat' first|exact gR|refine U0 ?_ ?_);all_goals exact rfl
def Hm:CS:=cz [lN] Hw
def MZ:bF aa.prog 48 Hm:=bc RP
def Uk:bK:=[(66,qI),(49,vl),(69,BE),(30,xp),(68,AZ)]
def KW:aR aa.prog Uk:=an ⟨ql,tS,HT,sN,BL,aA⟩
def Mo:HL zN->DA [.inl .str,.inl .str]->KO->Prop:=λ⟨g,h,f,p,i,r,j,k,l,n,s,o,q,t,u,v,a,b,x,y,z,A,B,W,c,D,X,F,G,Z,I,J,L,M,N,O,P,Q,d,e,R,S,T,Q0,_⟩⟨w,m,_⟩K=>af (pz w=E)<|Ec ⟨⟨⟨⟨g,h,f⟩,p,i,⟨r,j,k,l,n⟩,⟨s,o,q,t⟩,⟨u,v,a,b⟩⟩,x,y,z,A⟩,⟨⟨⟨B,W,c⟩,D,X,⟨F,G,Z,I,J⟩,⟨L,M,N,O⟩,⟨P,Q,d,e⟩⟩,R,S,T,Q0⟩⟩ (Al ⟨⟨⟨⟨g,h,f⟩,p,i,⟨r,j,k,l,n⟩,⟨s,o,q,t⟩,⟨u,v,a,b⟩⟩,x,y,z,A⟩,⟨⟨⟨B,W,c⟩,D,X,⟨F,G,Z,I,J⟩,⟨L,M,N,O⟩,⟨P,Q,d,e⟩⟩,R,S,T,Q0⟩⟩ w (br m)) K
def TP:zbt aa.prog 47 zN [.inl .str,.inl .str] Mo:=by
 refine F9 (TR:=eT) aJ au KW (Rn.fM func47) rfl ?_;rintro⟨(p:Int),(t:Int),(f:Int),(x:Int),(z:Int),(A:Int),(B:Int),(r:List (Int×Int)),(Q0:Bool),(D:Int),(Q1:Int),(s:List Int),(F:Int),(G:Int),(Q2:Bool),(I:Bool),(a:Bool),(b:Bool),(q:List Int),(g:List Int),(J:Int),(L:Int),(M:Int),(N:Int),(c:Int),(O:Int),(P:Int),(Q:Int),(R:Int),(i:List (Int×Int)),(S:Bool),(T:Int),(Q3:Int),(j:List Int),(Q4:Int),(W:Int),(X:Bool),(Q5:Bool),(d:Bool),(e:Bool),(n:List Int),(o:List Int),(Z:Int),(lK:Int),_⟩⟨(w:List UInt8),(m:List UInt8),_⟩K⟨hs,hK⟩-u;replace hK:Ec ⟨⟨⟨⟨p,t,f⟩,x,z,⟨A,B,r,Q0,D⟩,⟨Q1,s,F,G⟩,⟨Q2,I,a,b⟩⟩,q,g,J,L⟩,⟨⟨⟨M,N,c⟩,O,P,⟨Q,R,i,S,T⟩,⟨Q3,j,Q4,W⟩,⟨X,Q5,d,e⟩⟩,n,o,Z,lK⟩⟩ (Al ⟨⟨⟨⟨p,t,f⟩,x,z,⟨A,B,r,Q0,D⟩,⟨Q1,s,F,G⟩,⟨Q2,I,a,b⟩⟩,q,g,J,L⟩,⟨⟨⟨M,N,c⟩,O,P,⟨Q,R,i,S,T⟩,⟨Q3,j,Q4,W⟩,⟨X,Q5,d,e⟩⟩,n,o,Z,lK⟩⟩ w (br m)) K:=hK;rintro⟨-,-,-,-,-,-,-,h1,-,-,-,h2,-,-,-,-,-,-,h3,h4,-,-,-,-,-,-,-,-,-,g1,-,-,-,g2,-,-,-,-,-,-,g3,g4,-⟩;replace h1:=gl r h1;replace h2:=gl s h2;replace h3:=gl q h3;replace h4:=gl g h4;replace g1:=gl i g1;replace g2:=gl j g2;replace g3:=gl n g3;replace g4:=gl o g4;rcases YX hs with⟨rfl,s1,s2⟩|⟨w1,s1,s2⟩;.rw[ze8]at hK;cases wQ:(aZ ⟨⟨⟨M,N,c⟩,O,P,⟨Q,R,i,S,T⟩,⟨Q3,j,Q4,W⟩,⟨X,Q5,d,e⟩⟩,n,o,Z,lK⟩ (br m)).ok with
  |false=>
   rw[if_neg (bV.1 wQ)]at hK;have hA:=tk hK;repeat'(conv=>whnf);first|refine U0 ?_ ?_;exact gS|refine dS.mk ?_ ?_;exact wP|refine U1 ?_|apply gU;exact gA|(refine qM ?_ ?_;focus(simp only[beq_self_eq_true,gQ,eq_self,bO,wQ];done))|(refine na ?_ ?_;focus(simp only[beq_self_eq_true,gQ,eq_self,bO,wQ];done))|refine gB ?_ ?_<;>intro hb h<;>try exact bG|refineλ(y:Int)(h0:0<=y)h1=>?_
   all_goals
    refine gOw hA ?_;repeat' first|exact gR|refine U0 ?_ ?_
    all_goals exact rfl|true=>
   rw[if_pos wQ]at hK;have hA:=zou hK;have hab:=(w9 wQ).2.2;have hln:=(xr ⟨⟨⟨M,N,c⟩,O,P,⟨Q,R,i,S,T⟩,⟨Q3,j,Q4,W⟩,⟨X,Q5,d,e⟩⟩,n,o,Z,lK⟩ (br m)).2;repeat'(conv=>whnf);first|refine U0 ?_ ?_;exact gS|refine dS.mk ?_ ?_;exact wP|refine U1 ?_|apply gU;exact gA|(refine qM ?_ ?_;focus(simp only[beq_self_eq_true,gQ,eq_self,bO,wQ];done))|(refine na ?_ ?_;focus(simp only[beq_self_eq_true,gQ,eq_self,bO,wQ];done))|refine gB ?_ ?_<;>intro hb h<;>try exact bG|refineλ(y:Int)(h0:0<=y)h1=>?_
   refine dt.mI {k:Nat//k<=(aZ ⟨⟨⟨M,N,c⟩,O,P,⟨Q,R,i,S,T⟩,⟨Q3,j,Q4,W⟩,⟨X,Q5,d,e⟩⟩,n,o,Z,lK⟩ (br m)).l.length} (λ⟨k,_⟩=>[(11,.l (.str (iX++gZ ((aZ ⟨⟨⟨M,N,c⟩,O,P,⟨Q,R,i,S,T⟩,⟨Q3,j,Q4,W⟩,⟨X,Q5,d,e⟩⟩,n,o,Z,lK⟩ (br m)).l.take k)))),(12,.l (.v (.int .i64 k)))]) (λ_=>[]) (λ⟨k,_⟩=>(aZ ⟨⟨⟨M,N,c⟩,O,P,⟨Q,R,i,S,T⟩,⟨Q3,j,Q4,W⟩,⟨X,Q5,d,e⟩⟩,n,o,Z,lK⟩ (br m)).l.length-k) ⟨0,a7 _⟩ [0,1,2,3,4,5,6,7] ?_ ?_;.repeat'(first|(refine U0 ?_ ?_;focus(first|with_reducible exact rfl|exactλ_ h=>h|exact⟨⟨rfl,rfl,rfl,rfl⟩,aA⟩|(simp only[cT];done)|(simp[cT];done)|exact⟨rfl,aA⟩|exact⟨⟨rfl,rfl⟩,rfl,rfl⟩|exact⟨rfl,rfl,aA⟩|exact rfl|kernel_rfl))|exact aA)
   rintro⟨k,hk⟩;have hl5:=AN ((aZ ⟨⟨⟨M,N,c⟩,O,P,⟨Q,R,i,S,T⟩,⟨Q3,j,Q4,W⟩,⟨X,Q5,d,e⟩⟩,n,o,Z,lK⟩ (br m)).l.take k);have hl6:((aZ ⟨⟨⟨M,N,c⟩,O,P,⟨Q,R,i,S,T⟩,⟨Q3,j,Q4,W⟩,⟨X,Q5,d,e⟩⟩,n,o,Z,lK⟩ (br m)).l.take k).length<=32:=by simp;omega
   have hl7:(iX++gZ ((aZ ⟨⟨⟨M,N,c⟩,O,P,⟨Q,R,i,S,T⟩,⟨Q3,j,Q4,W⟩,⟨X,Q5,d,e⟩⟩,n,o,Z,lK⟩ (br m)).l.take k)).length<=200:=by have:iX.length=4:=rfl;simp only[bJ];omega
   have hl8:=eJ ((aZ ⟨⟨⟨M,N,c⟩,O,P,⟨Q,R,i,S,T⟩,⟨Q3,j,Q4,W⟩,⟨X,Q5,d,e⟩⟩,n,o,Z,lK⟩ (br m)).l.getD ((k:Nat):Int).toNat 0).toNat;have hby:k<(aZ ⟨⟨⟨M,N,c⟩,O,P,⟨Q,R,i,S,T⟩,⟨Q3,j,Q4,W⟩,⟨X,Q5,d,e⟩⟩,n,o,Z,lK⟩ (br m)).l.length->0<=(aZ ⟨⟨⟨M,N,c⟩,O,P,⟨Q,R,i,S,T⟩,⟨Q3,j,Q4,W⟩,⟨X,Q5,d,e⟩⟩,n,o,Z,lK⟩ (br m)).l.getD ((k:Nat):Int).toNat 0/\(aZ ⟨⟨⟨M,N,c⟩,O,P,⟨Q,R,i,S,T⟩,⟨Q3,j,Q4,W⟩,⟨X,Q5,d,e⟩⟩,n,o,Z,lK⟩ (br m)).l.getD ((k:Nat):Int).toNat 0<1000:=λh=>Gv hab h;repeat'(conv=>whnf);first|refine U0 ?_ ?_;exact gS|refine U1 ?_|apply gU;exact gA|refine gB ?_ ?_<;>intro hb h<;>try exact bG|refineλ(y:Int)(h0:0<=y)h1=>?_
   .have wS:k<(aZ ⟨⟨⟨M,N,c⟩,O,P,⟨Q,R,i,S,T⟩,⟨Q3,j,Q4,W⟩,⟨X,Q5,d,e⟩⟩,n,o,Z,lK⟩ (br m)).l.length:=Y0;have oF:iX++gZ ((aZ ⟨⟨⟨M,N,c⟩,O,P,⟨Q,R,i,S,T⟩,⟨Q3,j,Q4,W⟩,⟨X,Q5,d,e⟩⟩,n,o,Z,lK⟩ (br m)).l.take (k+1))=((iX++gZ ((aZ ⟨⟨⟨M,N,c⟩,O,P,⟨Q,R,i,S,T⟩,⟨Q3,j,Q4,W⟩,⟨X,Q5,d,e⟩⟩,n,o,Z,lK⟩ (br m)).l.take k))++({data:=#[32]}:ByteArray).data.toList)++lM ((aZ ⟨⟨⟨M,N,c⟩,O,P,⟨Q,R,i,S,T⟩,⟨Q3,j,Q4,W⟩,⟨X,Q5,d,e⟩⟩,n,o,Z,lK⟩ (br m)).l.getD ((k:Nat):Int).toNat 0).toNat:=JF wS;(refine ae ⟨k+1,wS⟩ (ae [0,1,2,3,4,5,6,7] (aB ?_ ?_)))
    .show(aZ ⟨⟨⟨M,N,c⟩,O,P,⟨Q,R,i,S,T⟩,⟨Q3,j,Q4,W⟩,⟨X,Q5,d,e⟩⟩,n,o,Z,lK⟩ (br m)).l.length-(k+1)<(aZ ⟨⟨⟨M,N,c⟩,O,P,⟨Q,R,i,S,T⟩,⟨Q3,j,Q4,W⟩,⟨X,Q5,d,e⟩⟩,n,o,Z,lK⟩ (br m)).l.length-k;omega
    .repeat'(first|(refine U0 ?_ ?_;focus(first|with_reducible exact rfl|exactλ_ h=>h|exact⟨⟨rfl,rfl,rfl,rfl⟩,aA⟩|(simp only[oF];done)|(simp[oF];done)|exact⟨rfl,aA⟩|exact⟨⟨rfl,rfl⟩,rfl,rfl⟩|exact⟨rfl,rfl,aA⟩|exact rfl|kernel_rfl))|exact aA)
     refine U0 (congrArg LV.str oF) ?_;repeat'(first|(refine U0 ?_ ?_;focus(first|with_reducible exact rfl|exactλ_ h=>h|exact⟨⟨rfl,rfl,rfl,rfl⟩,aA⟩|(simp only[oF];done)|(simp[oF];done)|exact⟨rfl,aA⟩|exact⟨⟨rfl,rfl⟩,rfl,rfl⟩|exact⟨rfl,rfl,aA⟩|exact rfl|kernel_rfl))|exact aA)
   all_goals
    have wS:(aZ ⟨⟨⟨M,N,c⟩,O,P,⟨Q,R,i,S,T⟩,⟨Q3,j,Q4,W⟩,⟨X,Q5,d,e⟩⟩,n,o,Z,lK⟩ (br m)).l.take k=(aZ ⟨⟨⟨M,N,c⟩,O,P,⟨Q,R,i,S,T⟩,⟨Q3,j,Q4,W⟩,⟨X,Q5,d,e⟩⟩,n,o,Z,lK⟩ (br m)).l:=aM Y0;refine gOw hA ?_;repeat' first|exact gR|refine U0 ?_ ?_
    all_goals rw[wS]
 .rw[ze7 _ w1]at hK;cases wQ:(aZ ⟨⟨⟨p,t,f⟩,x,z,⟨A,B,r,Q0,D⟩,⟨Q1,s,F,G⟩,⟨Q2,I,a,b⟩⟩,q,g,J,L⟩ (br m)).ok with
  |false=>
   rw[if_neg (bV.1 wQ)]at hK;have hA:=tk hK;repeat'(conv=>whnf);first|refine U0 ?_ ?_;exact gS|refine dS.mk ?_ ?_;exact wP|refine U1 ?_|apply gU;exact gA|(refine qM ?_ ?_;focus(simp only[beq_self_eq_true,gQ,eq_self,bO,wQ];done))|(refine na ?_ ?_;focus(simp only[beq_self_eq_true,gQ,eq_self,bO,wQ];done))|refine gB ?_ ?_<;>intro hb h<;>try exact bG|refineλ(y:Int)(h0:0<=y)h1=>?_
   all_goals
    refine gOw hA ?_;repeat' first|exact gR|refine U0 ?_ ?_
    all_goals exact rfl|true=>
   rw[if_pos wQ]at hK;have hA:=zot hK;have hab:=(w9 wQ).2.2;have hln:=(xr ⟨⟨⟨p,t,f⟩,x,z,⟨A,B,r,Q0,D⟩,⟨Q1,s,F,G⟩,⟨Q2,I,a,b⟩⟩,q,g,J,L⟩ (br m)).2;repeat'(conv=>whnf);first|refine U0 ?_ ?_;exact gS|refine dS.mk ?_ ?_;exact wP|refine U1 ?_|apply gU;exact gA|(refine qM ?_ ?_;focus(simp only[beq_self_eq_true,gQ,eq_self,bO,wQ];done))|(refine na ?_ ?_;focus(simp only[beq_self_eq_true,gQ,eq_self,bO,wQ];done))|refine gB ?_ ?_<;>intro hb h<;>try exact bG|refineλ(y:Int)(h0:0<=y)h1=>?_
   refine dt.mI {k:Nat//k<=(aZ ⟨⟨⟨p,t,f⟩,x,z,⟨A,B,r,Q0,D⟩,⟨Q1,s,F,G⟩,⟨Q2,I,a,b⟩⟩,q,g,J,L⟩ (br m)).l.length} (λ⟨k,_⟩=>[(11,.l (.str (iX++gZ ((aZ ⟨⟨⟨p,t,f⟩,x,z,⟨A,B,r,Q0,D⟩,⟨Q1,s,F,G⟩,⟨Q2,I,a,b⟩⟩,q,g,J,L⟩ (br m)).l.take k)))),(12,.l (.v (.int .i64 k)))]) (λ_=>[]) (λ⟨k,_⟩=>(aZ ⟨⟨⟨p,t,f⟩,x,z,⟨A,B,r,Q0,D⟩,⟨Q1,s,F,G⟩,⟨Q2,I,a,b⟩⟩,q,g,J,L⟩ (br m)).l.length-k) ⟨0,a7 _⟩ [0,1,2,3,4,5,6,7] ?_ ?_;.repeat'(first|(refine U0 ?_ ?_;focus(first|with_reducible exact rfl|exactλ_ h=>h|exact⟨⟨rfl,rfl,rfl,rfl⟩,aA⟩|(simp only[cT];done)|(simp[cT];done)|exact⟨rfl,aA⟩|exact⟨⟨rfl,rfl⟩,rfl,rfl⟩|exact⟨rfl,rfl,aA⟩|exact rfl|kernel_rfl))|exact aA)
   rintro⟨k,hk⟩;have hl5:=AN ((aZ ⟨⟨⟨p,t,f⟩,x,z,⟨A,B,r,Q0,D⟩,⟨Q1,s,F,G⟩,⟨Q2,I,a,b⟩⟩,q,g,J,L⟩ (br m)).l.take k);have hl6:((aZ ⟨⟨⟨p,t,f⟩,x,z,⟨A,B,r,Q0,D⟩,⟨Q1,s,F,G⟩,⟨Q2,I,a,b⟩⟩,q,g,J,L⟩ (br m)).l.take k).length<=32:=by simp;omega
   have hl7:(iX++gZ ((aZ ⟨⟨⟨p,t,f⟩,x,z,⟨A,B,r,Q0,D⟩,⟨Q1,s,F,G⟩,⟨Q2,I,a,b⟩⟩,q,g,J,L⟩ (br m)).l.take k)).length<=200:=by have:iX.length=4:=rfl;simp only[bJ];omega
   have hl8:=eJ ((aZ ⟨⟨⟨p,t,f⟩,x,z,⟨A,B,r,Q0,D⟩,⟨Q1,s,F,G⟩,⟨Q2,I,a,b⟩⟩,q,g,J,L⟩ (br m)).l.getD ((k:Nat):Int).toNat 0).toNat;have hby:k<(aZ ⟨⟨⟨p,t,f⟩,x,z,⟨A,B,r,Q0,D⟩,⟨Q1,s,F,G⟩,⟨Q2,I,a,b⟩⟩,q,g,J,L⟩ (br m)).l.length->0<=(aZ ⟨⟨⟨p,t,f⟩,x,z,⟨A,B,r,Q0,D⟩,⟨Q1,s,F,G⟩,⟨Q2,I,a,b⟩⟩,q,g,J,L⟩ (br m)).l.getD ((k:Nat):Int).toNat 0/\(aZ ⟨⟨⟨p,t,f⟩,x,z,⟨A,B,r,Q0,D⟩,⟨Q1,s,F,G⟩,⟨Q2,I,a,b⟩⟩,q,g,J,L⟩ (br m)).l.getD ((k:Nat):Int).toNat 0<1000:=λh=>Gv hab h;repeat'(conv=>whnf);first|refine U0 ?_ ?_;exact gS|refine U1 ?_|apply gU;exact gA|refine gB ?_ ?_<;>intro hb h<;>try exact bG|refineλ(y:Int)(h0:0<=y)h1=>?_
   .have wS:k<(aZ ⟨⟨⟨p,t,f⟩,x,z,⟨A,B,r,Q0,D⟩,⟨Q1,s,F,G⟩,⟨Q2,I,a,b⟩⟩,q,g,J,L⟩ (br m)).l.length:=Y0;have oF:iX++gZ ((aZ ⟨⟨⟨p,t,f⟩,x,z,⟨A,B,r,Q0,D⟩,⟨Q1,s,F,G⟩,⟨Q2,I,a,b⟩⟩,q,g,J,L⟩ (br m)).l.take (k+1))=((iX++gZ ((aZ ⟨⟨⟨p,t,f⟩,x,z,⟨A,B,r,Q0,D⟩,⟨Q1,s,F,G⟩,⟨Q2,I,a,b⟩⟩,q,g,J,L⟩ (br m)).l.take k))++({data:=#[32]}:ByteArray).data.toList)++lM ((aZ ⟨⟨⟨p,t,f⟩,x,z,⟨A,B,r,Q0,D⟩,⟨Q1,s,F,G⟩,⟨Q2,I,a,b⟩⟩,q,g,J,L⟩ (br m)).l.getD ((k:Nat):Int).toNat 0).toNat:=JF wS;(refine ae ⟨k+1,wS⟩ (ae [0,1,2,3,4,5,6,7] (aB ?_ ?_)))
    .show(aZ ⟨⟨⟨p,t,f⟩,x,z,⟨A,B,r,Q0,D⟩,⟨Q1,s,F,G⟩,⟨Q2,I,a,b⟩⟩,q,g,J,L⟩ (br m)).l.length-(k+1)<(aZ ⟨⟨⟨p,t,f⟩,x,z,⟨A,B,r,Q0,D⟩,⟨Q1,s,F,G⟩,⟨Q2,I,a,b⟩⟩,q,g,J,L⟩ (br m)).l.length-k;omega
    .repeat'(first|(refine U0 ?_ ?_;focus(first|with_reducible exact rfl|exactλ_ h=>h|exact⟨⟨rfl,rfl,rfl,rfl⟩,aA⟩|(simp only[oF];done)|(simp[oF];done)|exact⟨rfl,aA⟩|exact⟨⟨rfl,rfl⟩,rfl,rfl⟩|exact⟨rfl,rfl,aA⟩|exact rfl|kernel_rfl))|exact aA)
     refine U0 (congrArg LV.str oF) ?_;repeat'(first|(refine U0 ?_ ?_;focus(first|with_reducible exact rfl|exactλ_ h=>h|exact⟨⟨rfl,rfl,rfl,rfl⟩,aA⟩|(simp only[oF];done)|(simp[oF];done)|exact⟨rfl,aA⟩|exact⟨⟨rfl,rfl⟩,rfl,rfl⟩|exact⟨rfl,rfl,aA⟩|exact rfl|kernel_rfl))|exact aA)
   all_goals
    have wS:(aZ ⟨⟨⟨p,t,f⟩,x,z,⟨A,B,r,Q0,D⟩,⟨Q1,s,F,G⟩,⟨Q2,I,a,b⟩⟩,q,g,J,L⟩ (br m)).l.take k=(aZ ⟨⟨⟨p,t,f⟩,x,z,⟨A,B,r,Q0,D⟩,⟨Q1,s,F,G⟩,⟨Q2,I,a,b⟩⟩,q,g,J,L⟩ (br m)).l:=aM Y0;refine gOw hA ?_;repeat' first|exact gR|refine U0 ?_ ?_
    all_goals rw[wS]
def LZ:CS:=IM zN [.inl .str,.inl .str] Mo
def Rl:bF aa.prog 47 LZ:=O8 TP
def Uh:bK:=[(44,P3),(45,P4),(46,LY),(47,LZ),(49,vl),(48,Hm)]
def KT:aR aa.prog Uh:=an ⟨Tg,Ti,Rj,Rl,tS,MZ,aA⟩
def Yz:Nat->Tr:=λn=>match n with|4=>iu [0,0,1,1,2,1,3,1,4,1,5,0,6,1,7,2,8,2] .nil|6=>iu [0,0,1,0,2,0,3,0,4,1,5,1,6,1,7,0,8,1,9,2,10,2] .nil|8=>iu [0,0,1,0,2,0,3,0,4,1,5,1,6,1,7,1,8,0,9,1,10,2,11,2] .nil|10=>iu [0,0,1,0,2,1,3,1,4,1,5,1,6,1,7,2,8,2] .nil|_=>.nil
def Ml:HL zN->DA [.inl .str]->KO->Prop:=λ⟨e,g,f,p,h,r,i,j,k,l,n,o,q,t,u,v,m,a,w,x,y,z,A,B,b,W,D,X,F,G,Z,I,J,L,M,N,O,P,c,d,Q,R,S,T,_⟩⟨s,_⟩K=>af (iZ ⟨⟨⟨⟨e,g,f⟩,p,h,⟨r,i,j,k,l⟩,⟨n,o,q,t⟩,⟨u,v,m,a⟩⟩,w,x,y,z⟩,⟨⟨⟨A,B,b⟩,W,D,⟨X,F,G,Z,I⟩,⟨J,L,M,N⟩,⟨O,P,c,d⟩⟩,Q,R,S,T⟩⟩=E)<|af (s.length<=100000)<|Ec ⟨⟨⟨⟨e,g,f⟩,p,h,⟨r,i,j,k,l⟩,⟨n,o,q,t⟩,⟨u,v,m,a⟩⟩,w,x,y,z⟩,⟨⟨⟨A,B,b⟩,W,D,⟨X,F,G,Z,I⟩,⟨J,L,M,N⟩,⟨O,P,c,d⟩⟩,Q,R,S,T⟩⟩ (lP ⟨⟨⟨⟨e,g,f⟩,p,h,⟨r,i,j,k,l⟩,⟨n,o,q,t⟩,⟨u,v,m,a⟩⟩,w,x,y,z⟩,⟨⟨⟨A,B,b⟩,W,D,⟨X,F,G,Z,I⟩,⟨J,L,M,N⟩,⟨O,P,c,d⟩⟩,Q,R,S,T⟩⟩ s) K
def TM:zbt aa.prog 29 zN [.inl .str] Ml:=by
 refine F9 (TR:=Yz) aJ au KT (Rn.fM func29) rfl ?_;rintro⟨(v:Int),(w:Int),(f:Int),(x:Int),(A:Int),(B:Int),(Q0:Int),(r:List (Int×Int)),(D:Bool),(Q1:Int),(F:Int),(k:List Int),(G:Int),(Q2:Int),(I:Bool),(J:Bool),(m:Bool),(c:Bool),(q:List Int),(l:List Int),(L:Int),(M:Int),(N:Int),(O:Int),(d:Int),(P:Int),(Q:Int),(R:Int),(S:Int),(n:List (Int×Int)),(T:Bool),(Q3:Int),(Q4:Int),(o:List Int),(W:Int),(X:Int),(Q5:Bool),(Z:Bool),(g:Bool),(i:Bool),(p:List Int),(t:List Int),(sw:Int),(lK:Int),_⟩⟨(s:List UInt8),_⟩K⟨hv,hl,hK⟩-u;replace hv:iZ ⟨⟨⟨⟨v,w,f⟩,x,A,⟨B,Q0,r,D,Q1⟩,⟨F,k,G,Q2⟩,⟨I,J,m,c⟩⟩,q,l,L,M⟩,⟨⟨⟨N,O,d⟩,P,Q,⟨R,S,n,T,Q3⟩,⟨Q4,o,W,X⟩,⟨Q5,Z,g,i⟩⟩,p,t,sw,lK⟩⟩=E:=hv;replace hl:s.length<=100000:=hl;replace hK:Ec ⟨⟨⟨⟨v,w,f⟩,x,A,⟨B,Q0,r,D,Q1⟩,⟨F,k,G,Q2⟩,⟨I,J,m,c⟩⟩,q,l,L,M⟩,⟨⟨⟨N,O,d⟩,P,Q,⟨R,S,n,T,Q3⟩,⟨Q4,o,W,X⟩,⟨Q5,Z,g,i⟩⟩,p,t,sw,lK⟩⟩ (lP ⟨⟨⟨⟨v,w,f⟩,x,A,⟨B,Q0,r,D,Q1⟩,⟨F,k,G,Q2⟩,⟨I,J,m,c⟩⟩,q,l,L,M⟩,⟨⟨⟨N,O,d⟩,P,Q,⟨R,S,n,T,Q3⟩,⟨Q4,o,W,X⟩,⟨Q5,Z,g,i⟩⟩,p,t,sw,lK⟩⟩ s) K:=hK;obtain⟨hvA,hvB⟩:=qz hv;replace hvA:eR ⟨⟨⟨v,w,f⟩,x,A,⟨B,Q0,r,D,Q1⟩,⟨F,k,G,Q2⟩,⟨I,J,m,c⟩⟩,q,l,L,M⟩=E:=hvA;replace hvB:eR ⟨⟨⟨N,O,d⟩,P,Q,⟨R,S,n,T,Q3⟩,⟨Q4,o,W,X⟩,⟨Q5,Z,g,i⟩⟩,p,t,sw,lK⟩=E:=hvB;rintro⟨-,-,-,-,-,-,-,h1,-,-,-,h2,-,-,-,-,-,-,h3,h4,-,-,-,-,-,-,-,-,-,g1,-,-,-,g2,-,-,-,-,-,-,g3,g4,-⟩;replace h1:=gl r h1;replace h2:=gl k h2;replace h3:=gl q h3;replace h4:=gl l h4;replace g1:=gl n g1;replace g2:=gl o g2;replace g3:=gl p g3;replace g4:=gl t g4;repeat'(conv=>whnf);first|refine U0 ?_ ?_;exact gS|refine U1 ?_|apply gU;exact gA|refine gB ?_ ?_<;>intro j h<;>try exact bG|refineλ(y:Int)(h0:0<=y)h1=>?_
 intro ws hw;replace hw:ws=dT 32 s:=hw;have hn:1<=ws.length:=by rw[hw];exact mV.2 (I1 32 s)
 have hn2:ws.length<=100001:=by rw[hw,Gb];have:s.count 32<=s.length:=mh;omega
 unfold lP at hK;rw[<-hw]at hK;clear hw hv;have hW:pD ⟨⟨⟨⟨v,w,f⟩,x,A,⟨B,Q0,r,D,Q1⟩,⟨F,k,G,Q2⟩,⟨I,J,m,c⟩⟩,q,l,L,M⟩,⟨⟨⟨N,O,d⟩,P,Q,⟨R,S,n,T,Q3⟩,⟨Q4,o,W,X⟩,⟨Q5,Z,g,i⟩⟩,p,t,sw,lK⟩⟩ ws=⟨⟨⟨⟨⟨v,w,f⟩,x,A,⟨B,Q0,r,D,Q1⟩,⟨F,k,G,Q2⟩,⟨I,J,m,c⟩⟩,q,l,L,M⟩,⟨⟨⟨N,O,d⟩,P,Q,⟨R,S,n,T,Q3⟩,⟨Q4,o,W,X⟩,⟨Q5,Z,g,i⟩⟩,p,t,sw,lK⟩⟩,oJ⟩->K 0 (aP 44 U) (C (oJ++[10])):=λe=>tk (by rw[e]at hK;exact hK);rcases ztZ (ws.getD (aC 0) [])with⟨w0,q1,q2,q3,q4⟩|⟨w0,q1,q2,q3,q4⟩|⟨w0,q1,q2,q3,q4⟩|⟨w0,q1,q2,q3,q4⟩|⟨w0,q1,q2,q3,q4⟩;all_goals replace q1:decide (ws.getD (aC 0) []=[114,117,110])=_:=q1;replace q2:decide (ws.getD (aC 0) []=[115,101,110,100])=_:=q2;replace q3:decide (ws.getD (aC 0) []=[116,97,107,101])=_:=q3;replace q4:decide (ws.getD (aC 0) []=[99,111,117,110,116])=_:=q4
 .rw[VB w0]at hK hW;by_cases hc:ws.length=2
  .rw[if_pos hc]at hK;clear hW;repeat'(conv=>whnf);first|refine U0 ?_ ?_;exact gS|refine dS.mk ?_ ?_;exact wP|refine U1 ?_|apply gU;exact gA|refine gB ?_ ?_<;>intro j h<;>try exact bG|refineλ(y:Int)(h0:0<=y)h1=>?_
   all_goals intro z a b hz ha j;have hA:=hK z a b hz ha j;clear hz ha j hK;cases a<;>cases b;all_goals
     repeat'(conv=>whnf);first|refine U0 ?_ ?_;exact gS|refine U1 ?_|apply gU;exact gA|refine gB ?_ ?_<;>intro j h<;>try exact bG|refineλ(y:Int)(h0:0<=y)h1=>?_
     all_goals
      refine gOw hA ?_;repeat' first|exact gR|refine U0 ?_ ?_
      all_goals exact rfl
  .rw[if_neg hc]at hW;replace hW:=hW rfl;clear hK
   .repeat'(conv=>whnf);first|refine U0 ?_ ?_;exact gS|refine dS.mk ?_ ?_;exact wP|refine U1 ?_|apply gU;exact gA|refine gB ?_ ?_<;>intro j h<;>try exact bG|refineλ(y:Int)(h0:0<=y)h1=>?_
    all_goals
     refine gOw hW ?_;repeat' first|exact gR|refine U0 ?_ ?_
     all_goals exact rfl
 .rw[Qp w0]at hK hW;by_cases hc:3<=ws.length/\pz (ws.getD 1 [])=E
  .rw[if_pos hc]at hK;clear hW;rw[<-show(ws.drop 2).take (ws.length-2)=ws.drop 2 from aM Y1]at hK;obtain⟨hc,hs⟩:=hc;replace hs:pz (ws.getD (aC 1) [])=E:=hs;rcases YX hs with⟨w1,s1,s2⟩|⟨w1,s1,s2⟩;all_goals
    repeat'(conv=>whnf);first|refine U0 ?_ ?_;exact gS|refine dS.mk ?_ ?_;exact wP|refine U1 ?_|apply gU;exact gA|refine gB ?_ ?_<;>intro j h<;>try exact bG|refineλ(y:Int)(h0:0<=y)h1=>?_
    all_goals intro z a b hz ha j;have hA:=hK z a b hz ha j;clear hz ha j hK;cases a<;>cases b;all_goals
      repeat'(conv=>whnf);first|refine U0 ?_ ?_;exact gS|refine U1 ?_|apply gU;exact gA|refine gB ?_ ?_<;>intro j h<;>try exact bG|refineλ(y:Int)(h0:0<=y)h1=>?_
      all_goals
       refine gOw hA ?_;repeat' first|exact gR|refine U0 ?_ ?_
       all_goals exact rfl
  .rw[if_neg hc]at hW;replace hW:=hW rfl;clear hK;by_cases hc2:3<=ws.length
   .have hs:pz (ws.getD (aC 1) [])=H:=bV.2 λe=>hc ⟨hc2,e⟩;obtain⟨s1,s2⟩:=gC.1 hs;repeat'(conv=>whnf);first|refine U0 ?_ ?_;exact gS|refine dS.mk ?_ ?_;exact wP|refine U1 ?_|apply gU;exact gA|refine gB ?_ ?_<;>intro j h<;>try exact bG|refineλ(y:Int)(h0:0<=y)h1=>?_
    all_goals
     refine gOw hW ?_;repeat' first|exact gR|refine U0 ?_ ?_
     all_goals exact rfl
   .repeat'(conv=>whnf);first|refine U0 ?_ ?_;exact gS|refine dS.mk ?_ ?_;exact wP|refine U1 ?_|apply gU;exact gA|refine gB ?_ ?_<;>intro j h<;>try exact bG|refineλ(y:Int)(h0:0<=y)h1=>?_
    all_goals
     refine gOw hW ?_;repeat' first|exact gR|refine U0 ?_ ?_
     all_goals exact rfl
 .rw[Qq w0]at hK hW;by_cases hc:ws.length=3/\pz (ws.getD 1 [])=E
  .rw[if_pos hc]at hK;clear hW;obtain⟨hc,hs⟩:=hc;replace hs:pz (ws.getD (aC 1) [])=E:=hs;rcases YX hs with⟨w1,s1,s2⟩|⟨w1,s1,s2⟩;all_goals
    repeat'(conv=>whnf);first|refine U0 ?_ ?_;exact gS|refine dS.mk ?_ ?_;exact wP|refine U1 ?_|apply gU;exact gA|refine gB ?_ ?_<;>intro j h<;>try exact bG|refineλ(y:Int)(h0:0<=y)h1=>?_
    all_goals intro z a b hz ha j;have hA:=hK z a b hz ha j;clear hz ha j hK;cases a<;>cases b;all_goals
      repeat'(conv=>whnf);first|refine U0 ?_ ?_;exact gS|refine U1 ?_|apply gU;exact gA|refine gB ?_ ?_<;>intro j h<;>try exact bG|refineλ(y:Int)(h0:0<=y)h1=>?_
      all_goals
       refine gOw hA ?_;repeat' first|exact gR|refine U0 ?_ ?_
       all_goals exact rfl
  .rw[if_neg hc]at hW;replace hW:=hW rfl;clear hK;by_cases hc2:ws.length=3
   .have hs:pz (ws.getD (aC 1) [])=H:=bV.2 λe=>hc ⟨hc2,e⟩;obtain⟨s1,s2⟩:=gC.1 hs;repeat'(conv=>whnf);first|refine U0 ?_ ?_;exact gS|refine dS.mk ?_ ?_;exact wP|refine U1 ?_|apply gU;exact gA|refine gB ?_ ?_<;>intro j h<;>try exact bG|refineλ(y:Int)(h0:0<=y)h1=>?_
    all_goals
     refine gOw hW ?_;repeat' first|exact gR|refine U0 ?_ ?_
     all_goals exact rfl
   .repeat'(conv=>whnf);first|refine U0 ?_ ?_;exact gS|refine dS.mk ?_ ?_;exact wP|refine U1 ?_|apply gU;exact gA|refine gB ?_ ?_<;>intro j h<;>try exact bG|refineλ(y:Int)(h0:0<=y)h1=>?_
    all_goals
     refine gOw hW ?_;repeat' first|exact gR|refine U0 ?_ ?_
     all_goals exact rfl
 .rw[Ma w0]at hK hW;by_cases hc:ws.length=2/\pz (ws.getD 1 [])=E
  .rw[if_pos hc]at hK;clear hW;obtain⟨hc,hs⟩:=hc;replace hs:pz (ws.getD (aC 1) [])=E:=hs;rcases YX hs with⟨w1,s1,s2⟩|⟨w1,s1,s2⟩;all_goals
    have hA:=tk hK;clear hK;unfold nQ at hA;first|rw[if_pos (show ws.getD 1 []=[98]from w1)]at hA|rw[if_neg (show¬ws.getD 1 []=[98]from w1)]at hA
    repeat'(conv=>whnf);first|refine U0 ?_ ?_;exact gS|refine dS.mk ?_ ?_;exact wP|refine U1 ?_|apply gU;exact gA|refine gB ?_ ?_<;>intro j h<;>try exact bG|refineλ(y:Int)(h0:0<=y)h1=>?_
    all_goals
     refine gOw hA ?_;repeat' first|exact gR|refine U0 ?_ ?_
     all_goals exact rfl
  .rw[if_neg hc]at hW;replace hW:=hW rfl;clear hK;by_cases hc2:ws.length=2
   .have hs:pz (ws.getD (aC 1) [])=H:=bV.2 λe=>hc ⟨hc2,e⟩;obtain⟨s1,s2⟩:=gC.1 hs;repeat'(conv=>whnf);first|refine U0 ?_ ?_;exact gS|refine dS.mk ?_ ?_;exact wP|refine U1 ?_|apply gU;exact gA|refine gB ?_ ?_<;>intro j h<;>try exact bG|refineλ(y:Int)(h0:0<=y)h1=>?_
    all_goals
     refine gOw hW ?_;repeat' first|exact gR|refine U0 ?_ ?_
     all_goals exact rfl
   .repeat'(conv=>whnf);first|refine U0 ?_ ?_;exact gS|refine dS.mk ?_ ?_;exact wP|refine U1 ?_|apply gU;exact gA|refine gB ?_ ?_<;>intro j h<;>try exact bG|refineλ(y:Int)(h0:0<=y)h1=>?_
    all_goals
     refine gOw hW ?_;repeat' first|exact gR|refine U0 ?_ ?_
     all_goals exact rfl
 .have e:pD ⟨⟨⟨⟨v,w,f⟩,x,A,⟨B,Q0,r,D,Q1⟩,⟨F,k,G,Q2⟩,⟨I,J,m,c⟩⟩,q,l,L,M⟩,⟨⟨⟨N,O,d⟩,P,Q,⟨R,S,n,T,Q3⟩,⟨Q4,o,W,X⟩,⟨Q5,Z,g,i⟩⟩,p,t,sw,lK⟩⟩ ws=⟨⟨⟨⟨⟨v,w,f⟩,x,A,⟨B,Q0,r,D,Q1⟩,⟨F,k,G,Q2⟩,⟨I,J,m,c⟩⟩,q,l,L,M⟩,⟨⟨⟨N,O,d⟩,P,Q,⟨R,S,n,T,Q3⟩,⟨Q4,o,W,X⟩,⟨Q5,Z,g,i⟩⟩,p,t,sw,lK⟩⟩,oJ⟩:=by unfold pD;obtain⟨w1,w2,w3,w4⟩:=w0;rw[if_neg (show¬ws.getD 0 []=MG from w1),if_neg (show¬ws.getD 0 []=y3 from w2),if_neg (show¬ws.getD 0 []=y4 from w3),if_neg (show¬ws.getD 0 []=tj from w4)]
  replace hW:=hW e;clear hK;repeat'(conv=>whnf);first|refine U0 ?_ ?_;exact gS|refine dS.mk ?_ ?_;exact wP|refine U1 ?_|apply gU;exact gA|refine gB ?_ ?_<;>intro j h<;>try exact bG|refineλ(y:Int)(h0:0<=y)h1=>?_
  all_goals
   refine gOw hW ?_;repeat' first|exact gR|refine U0 ?_ ?_
   all_goals exact rfl
def LX:CS:=IM zN [.inl .str] Ml
def Ri:bF aa.prog 29 LX:=O8 TM
abbrev SS(x:lI):lI:=⟨⟨⟨⟨x.a.p.f.bits,x.a.p.f.par,x.a.p.f.stop⟩,x.a.p.en,x.a.p.co,⟨x.a.p.rc.bS,x.a.p.rc.lh,x.a.p.rc.items,x.a.p.rc.cX,x.a.p.rc.CP⟩,⟨x.a.p.sd.bS,x.a.p.sd.items,x.a.p.sd.shift,x.a.p.sd.left⟩,⟨x.a.p.md.c,x.a.p.md.h,x.a.p.md.cc,x.a.p.md.hc⟩⟩,x.a.pM,x.a.out,x.a.eX,x.a.cX⟩,⟨⟨⟨x.b.p.f.bits,x.b.p.f.par,x.b.p.f.stop⟩,x.b.p.en,x.b.p.co,⟨x.b.p.rc.bS,x.b.p.rc.lh,x.b.p.rc.items,x.b.p.rc.cX,x.b.p.rc.CP⟩,⟨x.b.p.sd.bS,x.b.p.sd.items,x.b.p.sd.shift,x.b.p.sd.left⟩,⟨x.b.p.md.c,x.b.p.md.h,x.b.p.md.cc,x.b.p.md.hc⟩⟩,x.b.pM,x.b.out,x.b.eX,x.b.cX⟩⟩
def Qr(x:lI)(l:List (List UInt8))(s:List UInt8):eS x (l++[s])=⟨(lP (eS x l).x s).x,(eS x l).s++((lP (eS x l).x s).s++[10])⟩:=by rw[Jo];simp[eS]
structure Ex7(s:List UInt8)(a i:Nat)(L:List (List UInt8))(y:SG):Prop where
 c:Le 10 s a i L
 e:y=eS Eh L
 v:iZ y.x=E
 l:y.s.length<=201*L.length
def zuA(s:List UInt8){d:fe}(h:d=Eh.a):Ex7 s 0 0 [] ⟨⟨d,d⟩,[]⟩:=⟨zem 10 s,by subst h;rfl,by subst h;exact Xn,a7 _⟩
variable{y:SG}
def zrt(h:Ex7 s a i L y)(b:i<s.length)(d:¬(((s.getD i 0).toNat:Nat):Int)=10):Ex7 s a (i+1) L y:=⟨ZF h.c b d,h.e,h.v,h.l⟩
def zm3{z:SG}(h:Ex7 s a i L y)(f:i<s.length)(g:(((s.getD i 0).toNat:Nat):Int)=10)(d:z=lP y.x ((s.drop a).take (i-a)))(j:x=z.x):Ex7 s (i+1) (i+1) (L++[(s.drop a).take (i-a)]) ⟨x,y.s++(z.s++[10])⟩:=by
 subst d j;have b:=xa h.v (dT 32 ((s.drop a).take (i-a)));refine⟨Vm h.c f g,?_,b.1,?_⟩;.rw[Qr,<-h.e]
 .have:=h.l;grind[lP,bJ,aW,fN]
def zm2(h:Ex7 s a s.length L y)(l:¬400<s.length):gY s=((y.s++zhS)++lM (fo y.x).length)++[10]:=by unfold gY;rw[if_neg l];unfold zbL;rw[<-Vl h.c,List.dropLast_concat,<-h.e];simp[zhV]
def J6:fi aa.prog 28 [.inl .int,.inl .int] (λ⟨r,t,_⟩K=>af (r=4/\t=2)<|∀(d:fe)(o:Bool),d=Eh.a->K (YM.d ⟨d,o⟩)):=by rintro⟨r,t,_⟩K⟨⟨rfl,rfl⟩,hK⟩w v h g;exact J5 (4,2,()) K (hK _ _ rfl) w v h g
def BC:CS:=cz [.inl .int,.inl .int] (λ⟨r,t,_⟩K=>af (r=4/\t=2)<|∀(d:fe)(o:Bool),d=Eh.a->K (YM.d ⟨d,o⟩))
def HQ:bF aa.prog 28 BC:=bc J6
def TZ:bK:=[(28,BC),(29,LX),(31,BG),(30,xp)]
def Kt:aR aa.prog TZ:=an ⟨HQ,Ri,HV,sN,aA⟩
def Yr:Nat->Tr:=λn=>match n with|12=>iu [0,0,1,0,2,0,3,0,4,0] (.iY 5 1 (iu [6,0,7,0,8,0,9,1,10,1,11,2] .nil) 9 1 (iu [5,1,6,1,7,0,8,0,10,1,11,2] .nil))|_=>.nil
def A5:DA [.inl .str]->(DV->Prop)->Prop:=λ⟨s,_⟩K=>K (.l (.str (gY s)))
def Tv:fi aa.prog 13 [.inl .str] A5:=by
 apply aV (TR:=Yr) aJ au Kt (Rn.fM func13) rfl;rintro⟨s,_⟩K hK-;dsimp only[A5]at hK;by_cases B:400<s.length
 .have e:gY s=[116,111,111,32,108,111,110,103,10]:=by unfold gY;rw[if_pos B]
  rw[e]at hK;repeat'(conv=>whnf);first|apply U0;exact gS|refine gB ?_ ?_<;>intro f h<;>try exact bG
  (refine gI hK ?_;repeat' first|exact gR|apply U0)
 repeat'(conv=>whnf);first|apply U0;exact gS|refine gB ?_ ?_<;>intro f h<;>try exact bG
 intro d Q N;repeat'((conv=>whnf);(apply U0;exact gS))
 intro d2 I w;obtain rfl:d2=d:=w.trans N.symm;repeat'((conv=>whnf);(apply U0;exact gS))
 apply dt.mI {p:Nat×Nat×List (List UInt8)×SG//Ex7 s p.1 p.2.1 p.2.2.1 p.2.2.2} (λ⟨(a,i,_,y),_⟩=>[(3,.j),(5,.j),(8,.l (.str y.s)),(9,.l (.v (.int .i64 a))),(10,.l (.v (.int .i64 i))),(18,.j),(22,.j),(24,.j),(25,.j),(26,.j)]) (λ⟨(_,_,_,y),_⟩=>[(0,.r 0 80 (.bC y.x.a.p.rc.items)),(1,.r 0 3 (.bn y.x.a.p.sd.items)),(2,.r 0 3 (.bn y.x.a.pM)),(3,.r 0 3 (.bn y.x.a.out)),(4,.d),(5,.r 0 80 (.bC y.x.b.p.rc.items)),(6,.r 0 3 (.bn y.x.b.p.sd.items)),(7,.r 0 3 (.bn y.x.b.pM)),(8,.r 0 3 (.bn y.x.b.out)),(9,.d),(10,.b (WW y.x 0 1 2 3 5 6 7 8) 50)]) (λ⟨(_,i,_),_⟩=>s.length-i) ⟨(0,0,[],⟨⟨d2,d2⟩,[]⟩),zuA s N⟩ [0,1,2,3,4,5,6,7,8,9,10];·(repeat'(first|(apply U0;exact gV)|exact aA))
 rintro⟨⟨a,i,L,y⟩,m⟩;have m:Ex7 s a i L y:=m;have⟨R,S,W,_⟩:=m.c;have O:iZ (SS y.x)=E:=m.v;unfold SS at O;have X:=m.l;repeat'(conv=>whnf);first|refine U0 ?_ ?_;exact gS|refine gB ?_ ?_<;>intro f h<;>try exact bG
 .have M:i<s.length:=Y0;refine dS.mk ?_ ?_
  .intro G hF;(conv at hF=>whnf);repeat(replace hF:=lq hF;(conv at hF=>whnf))
   repeat'((conv=>whnf);(refine U0 ?_ ?_;exact gS))
   intro z fa u t n o;replace hF:=hF z fa u t n o;cases fa<;>cases u;all_goals
    (conv at hF=>whnf);repeat(replace hF:=lq hF;(conv at hF=>whnf))
    replace hF:=qO hF;repeat'(conv=>whnf);first|refine U0 ?_ ?_;exact gS|refine U1 ?_|refineλ(y:Int)(g:0<=y)k=>?_
    exact hF
  .repeat'((conv=>whnf);(refine U0 ?_ ?_;exact gS))
   intro z fa u t n o;replace t:z=lP y.x ((s.drop a).take (i-a)):=t;have D:z.s.length<=200:=by rw[t];exact(xa m.v _).2
   have J:L.length<=400:=Y0;have q:∀x,x=z.x->Ex7 s (i+1) (i+1) (L++[(s.drop a).take (i-a)]) ⟨x,y.s++(z.s++[10])⟩:=λx P=>zm3 m M h t P;cases fa<;>cases u
   .repeat'(conv=>whnf);first|refine U0 ?_ ?_;exact gS|refine U1 ?_|refineλ(y:Int)(g:0<=y)k=>?_
    refine ae ⟨(i+1,i+1,L++[(s.drop a).take (i-a)],⟨z.x,y.s++(z.s++[10])⟩),?zp⟩ (ae [12,13,14,15,4,16,17,18,19,9,10] (aB ?zm ?zc));case zc=>repeat' first|refine U0 ?_ ?_;exact gV|exact aA
    case zm=>show s.length-(i+1)<s.length-i;omega
    case zp=>exact q _ rfl
   .repeat'(conv=>whnf);first|refine U0 ?_ ?_;exact gS|refine U1 ?_|refineλ(y:Int)(g:0<=y)k=>?_
    refine ae ⟨(i+1,i+1,L++[(s.drop a).take (i-a)],⟨⟨z.x.a,y.x.b⟩,y.s++(z.s++[10])⟩),?zp⟩ (ae [12,13,14,15,4,5,6,7,8,9,10] (aB ?zm ?zc));case zc=>repeat' first|refine U0 ?_ ?_;exact gV|exact aA
    case zm=>show s.length-(i+1)<s.length-i;omega
    case zp=>exact q _ (by rw[<-show z.x.b=y.x.b from o rfl])
   .repeat'(conv=>whnf);first|refine U0 ?_ ?_;exact gS|refine U1 ?_|refineλ(y:Int)(g:0<=y)k=>?_
    refine ae ⟨(i+1,i+1,L++[(s.drop a).take (i-a)],⟨⟨y.x.a,z.x.b⟩,y.s++(z.s++[10])⟩),?zp⟩ (ae [0,1,2,3,4,12,13,14,15,9,10] (aB ?zm ?zc));case zc=>repeat' first|refine U0 ?_ ?_;exact gV|exact aA
    case zm=>show s.length-(i+1)<s.length-i;omega
    case zp=>exact q _ (by rw[<-show z.x.a=y.x.a from n rfl])
   .repeat'(conv=>whnf);first|refine U0 ?_ ?_;exact gS|refine U1 ?_|refineλ(y:Int)(g:0<=y)k=>?_
    refine ae ⟨(i+1,i+1,L++[(s.drop a).take (i-a)],⟨y.x,y.s++(z.s++[10])⟩),?zp⟩ (ae [0,1,2,3,4,5,6,7,8,9,10] (aB ?zm ?zc));case zc=>repeat' first|refine U0 ?_ ?_;exact gV|exact aA
    case zm=>show s.length-(i+1)<s.length-i;omega
    case zp=>exact q _ (by rw[show y.x=⟨y.x.a,y.x.b⟩from rfl,<-show z.x.a=y.x.a from n rfl,<-show z.x.b=y.x.b from o rfl])
 .have M:i<s.length:=Y0;refine ae ⟨(a,i+1,L,y),?zp⟩ (ae [0,1,2,3,4,5,6,7,8,9,10] (aB ?zm ?zc));case zc=>repeat' first|refine U0 ?_ ?_;exact gV|exact aA
  case zm=>show s.length-(i+1)<s.length-i;omega
  case zp=>exact zrt m M h
 .obtain rfl:i=s.length:=Y0;rw[zm2 m B]at hK;have F:(fo (SS y.x)).length<=200:=EI y.x;have A:(lM ((fo (SS y.x)).length:Int).toNat).length<=3:=eJ (fo y.x).length;unfold SS at F A;have Z:L.length<=400:=Y0;repeat'((conv=>whnf);(refine U0 ?_ ?_;exact gS))
  apply gI hK;repeat' first|exact gR|apply U0
  rfl
def LF:CS:=cz [.inl .str] A5
def Q6:bF aa.prog 13 LF:=bc Tv
def Nu:bK:=[(33,Lw)]
def Fb:aR aa.prog Nu:=an ⟨QV,aA⟩
def Us:DA [.inl .int,.inl .int]->(DV->Prop)->Prop:=λ⟨r,t,_⟩K=>K (u3 r t).d
def M1:fi aa.prog 20 [.inl .int,.inl .int] Us:=by refine aV (TR:=eT) aJ au Fb (Rn.fM func20) rfl ?_;rintro⟨(r:Int),(t:Int),_⟩K hK-;replace hK:K (u3 r t).d:=hK;cases h:eL (wW r t)with
 |false=>
  have e:pF r t=⟨Ej,H⟩:=by simp[pF,h]
  rw[show u3 r t=⟨FT,H⟩by simp[u3,h]]at hK;repeat'(conv=>whnf);first|refine U0 ?_ ?_;exact gS|refine U1 ?_|apply gU;exact gA|(refine qM ?_ ?_;focus(simp only[beq_self_eq_true,gQ,eq_self,bO,e];done))|(refine na ?_ ?_;focus(simp only[beq_self_eq_true,gQ,eq_self,bO,e];done))|refine gB ?_ ?_<;>intro b h<;>try exact bG
  all_goals exact gF hK|true=>
  have e:pF r t=⟨wW r t,E⟩:=by simp[pF,h]
  rw[show u3 r t=⟨zia r t,E⟩by simp[u3,h]]at hK;repeat'(conv=>whnf);first|refine U0 ?_ ?_;exact gS|refine U1 ?_|apply gU;exact gA|(refine qM ?_ ?_;focus(simp only[beq_self_eq_true,gQ,eq_self,bO,e];done))|(refine na ?_ ?_;focus(simp only[beq_self_eq_true,gQ,eq_self,bO,e];done))|refine gB ?_ ?_<;>intro b h<;>try exact bG
  all_goals(refine gI hK ?_;repeat' first|exact gR|refine U0 ?_ ?_);all_goals first|exact rfl|(rw[e];rfl)
namespace Ab
def zqB(r:AV)(K:AV->Prop):Prop:=match r with|.l (.str s)=>∀x:List UInt8,x=s->K (.l (.str x))|r=>K r
def znc{r:AV}{K:AV->Prop}(h:zqB r K):K r:=by unfold zqB at h;grind
def zh7(c:CS):CS:={S:=λx h K=>c.S x h λr p=>zqB r λa=>K a p,sb:=c.sb}
def ZE{P:al}{f:bu}{c:CS}(h:bF P f c):bF P f (zh7 c):=by refine⟨h.1,λx d K S g β w i I gl j=>b9 (h.2 x d _ S g β w i I gl j) ?_⟩;rintro e k⟨v,r,p,bR,rfl,a,b⟩;exact⟨v,r,p,bR,rfl,znc a,b⟩
end Ab
def ZW{l:List (List UInt8)}{m:Nat}(h:(l.all λs=>decide (s.length<=m))=E)(n:Nat):(l.getD n []).length<=m:=by grind
def D1:bK:=[(17,qJ)]
def KZ:aR aa.prog D1:=an ⟨qm,aA⟩
def ztY:CS:=zh7 (FQ fQ D1 eT f32)
def zmM:bF aa.prog 32 ztY:=ZE (eP aJ au KZ (Rn.fM func32))
def Um:bK:=[(32,ztY),(17,qJ),(30,zh7 xp)]
def K0:aR aa.prog Um:=an ⟨zmM,qm,ZE sN,aA⟩
def TQ:zhw aa.prog 18 69 [] (λp _ K=>af (0<=p/\p<=1000000)<|∀(t:List UInt8)(b:Int),t.length<=40->p<=b->b<=p+10->K (.l (.str t)) b):=by
 apply ZC (TR:=eT) aJ au K0 (Rn.fM func18) rfl rfl;rintro v l(p:Int)_ K g⟨i,hK⟩;repeat'(conv=>whnf);first|apply U0;exact gS|intro y d e
 repeat'(first|(intro x f;(first|(have a:x.length<=3:=(by rw[f];exact eJ _))|(have a:x.length<=1:=(by rw[f];exact ZW Y5 _))|(have a:x.length<=10:=(by rw[f];exact ZW Y5 _)));clear f;repeat'((conv=>whnf);first|apply U0;exact gS|apply gU;exact gA|refine gB ?_ ?_<;>intro c h<;>try exact bG|intro y d e))|(refine ae _ (ae _ (aB ?_ (hK ?_ ?_ ?_ ?_ ?_)));(focus((repeat' first|exact gR|apply U0);done))))
 all_goals first|omega|(simp;omega)
def L3:CS:=iR 69 [] (λp _ K=>af (0<=p/\p<=1000000)<|∀(t:List UInt8)(a:Int),t.length<=40->p<=a->a<=p+10->K (.l (.str t)) a)
def Rm:bF aa.prog 18 L3:=ziQ gK TQ
def zgi(a n:Nat):(a+a)*(n/2)+(if n%2=1 then a else 0)<=a*n:=by grind[Nat.mul_add,Nat.div_add_mod,Nat.two_mul,Nat.mul_comm,Nat.mul_assoc]
def zkw{a n M:Nat}(h:a*n<=M)(b:0<n):a<=M:=bw (Nat.le_mul_of_pos_right a b) h
def Yh:bK:=[]
def N2:aR aa.prog Yh:=an trivial
def QI:DA [.inl .str,.inl .int]->(DV->Prop)->Prop:=λ⟨s,n,_⟩K=>af (s.length<=16)<|af (@LE.le Int _ 0 n/\@LE.le Int _ n 63)<|∀t:List UInt8,t.length<=1008->K (.l (.str t))
def X5:fi aa.prog 19 [.inl .str,.inl .int] QI:=by
 apply aV (TR:=eT) aJ au N2 (Rn.fM func19) rfl;rintro⟨s,(n:Int),_⟩K⟨t,⟨e,f⟩,hK⟩-;obtain⟨m,rfl⟩:∃m:Nat,n=m:=⟨n.toNat,Y0⟩;have M:s.length*m<=1008:=by have:s.length*m<=16*63:=Nat.mul_le_mul t Y0;omega
 repeat'(conv=>whnf);first|apply U0;exact gS|apply gB<;>intro g h<;>try exact bG
 apply dt.mI {p:Nat×List UInt8×List UInt8//p.2.2.length+p.2.1.length*p.1<=1008/\p.2.1.length<=2016/\p.1<=63} (λ⟨(k,a,b),_⟩=>[(0,.l (.str a)),(1,.l (.v (.int .i64 k))),(5,.l (.str b))]) (λ_=>[]) (λ⟨(k,_,_),_⟩=>k) ⟨(m,s,[]),Y7,Y8,Y0⟩ [];·(repeat'(first|(apply U0;exact gV)|exact aA))
 rintro⟨⟨k,a,b⟩,i,j,o⟩;dsimp only at i j o;have d:=zgi a.length k;have r:0<k->a.length<=1008:=λh=>zkw Y0 h;repeat'(conv=>whnf);first|apply U0;exact gS|apply gU;exact gA|refine gB ?_ ?_<;>intro g h<;>try exact bG
 .have c:k%2=1:=Y0;rw[if_pos c]at d;have q:(b++a).length+(a++a).length*(k/2)<=1008/\(a++a).length<=2016/\k/2<=63:=Y8;(refine ae ⟨(k/2,a++a,b++a),q⟩ (ae [] (aB ?_ ?_)));.grind
  .repeat'(first|(apply U0;focus(rfl))|exact aA)
 .have c:¬k%2=1:=Y0;rw[if_neg c]at d;have q:b.length+(a++a).length*(k/2)<=1008/\(a++a).length<=2016/\k/2<=63:=Y8;(refine ae ⟨(k/2,a++a,b),q⟩ (ae [] (aB ?_ ?_)));.grind
  .repeat'(first|(apply U0;focus(rfl))|exact aA)
 .refine ae _ (aB ?_ (hK b Y0));repeat' first|exact gR|apply U0
def P5:CS:=cz [.inl .str,.inl .int] QI
def Tj:bF aa.prog 19 P5:=bc X5
def Ir:bK:=[(16,P6),(17,qJ),(18,L3),(19,P5)]
def B9:aR aa.prog Ir:=an ⟨Tk,qm,Rm,Tj,aA⟩
def zv:DA [.inl .bytes]->(DV->Prop)->Prop:=λ_ K=>∀t:List UInt8,t.length<=3000->K (.l (.str t))
def H3:fi aa.prog 11 [.inl .bytes] zv:=by
 apply aV (TR:=eT) aJ au B9 (Rn.fM func11) rfl;rintro⟨c,_⟩K hK⟨u,_⟩;have u:=gl c u;have hK:=hK;repeat'(conv=>whnf);first|apply U0;exact gS|refine gB ?_ ?_<;>intro a h<;>try exact bG|intro y d e
 .refine dt.mI {q:Nat×List UInt8×Int//q.2.1.length<=41*q.1/\(0<=q.2.2/\q.2.2<=1+10*q.1)/\q.1<=12} (λ⟨(i,t,_),_⟩=>[(4,.l (.str t)),(6,.l (.v (.int .i64 i)))]) (λ⟨(_,_,p),_⟩=>[(0,.b [.f (((EL.bytes c).drop (aC 0)).take (aC 2000-aC 0)),.v (.int .i64 p)] 69)]) (λ⟨(i,_,_),_⟩=>12-i) ⟨(0,[],1),Y1⟩ [0] ?_ ?_;·(repeat'(first|(apply U0;exact gV)|exact aA))
  rintro⟨⟨i,t,p⟩,o,r,s⟩;dsimp only at o r s;repeat'(conv=>whnf);first|apply U0;exact gS|apply gU;exact gA|refine gB ?_ ?_<;>intro a h<;>try exact bG|refineλ(y:Int)(d:0<=y)e=>?_
  .intro x n j k m;repeat'((conv=>whnf);(apply U0;exact gS))
   have g:(t++x++[10]).length<=41*(i+1)/\(0<=n/\n<=1+10*((i+1:Nat):Int))/\i+1<=12:=by
    refine⟨?_,?_,?_⟩
    .simp only[bJ,aW,fN];omega
    .omega
    .omega
   (refine ae ⟨(i+1,t++x++[10],n),g⟩ (ae [0] (aB ?_ ?_)))
   .show 12-(i+1)<12-i;omega
   ·(repeat'(first|(apply U0;exact gV)|exact aA))
  all_goals
   repeat'(first|(intro x w;repeat'((conv=>whnf);(refine U0 ?_ ?_;exact gS)))|(refine ae _ (aB ?_ (hK ?_ ?_));focus((repeat' first|exact gR|refine U0 ?_ ?_);done)))
   all_goals first|omega|(simp;omega)
 .apply dt.mI {q:Nat×List UInt8×Int//q.2.1.length<=41*q.1/\(0<=q.2.2/\q.2.2<=1+10*q.1)/\q.1<=12} (λ⟨(i,t,_),_⟩=>[(4,.l (.str t)),(6,.l (.v (.int .i64 i)))]) (λ⟨(_,_,p),_⟩=>[(0,.b [.f (EL.bytes c),.v (.int .i64 p)] 69)]) (λ⟨(i,_,_),_⟩=>12-i) ⟨(0,[],1),Y1⟩ [0];·(repeat'(first|(apply U0;exact gV)|exact aA))
  rintro⟨⟨i,t,p⟩,o,r,s⟩;dsimp only at o r s;repeat'(conv=>whnf);first|apply U0;exact gS|apply gU;exact gA|refine gB ?_ ?_<;>intro a h<;>try exact bG|refineλ(y:Int)(d:0<=y)e=>?_
  .intro x n j k m;repeat'((conv=>whnf);(apply U0;exact gS))
   have g:(t++x++[10]).length<=41*(i+1)/\(0<=n/\n<=1+10*((i+1:Nat):Int))/\i+1<=12:=by
    refine⟨?_,?_,?_⟩;.simp only[bJ,aW,fN];omega
    .omega
    .omega
   (refine ae ⟨(i+1,t++x++[10],n),g⟩ (ae [0] (aB ?_ ?_)));.show 12-(i+1)<12-i;omega
   ·(repeat'(first|(apply U0;exact gV)|exact aA))
  all_goals
   repeat'(first|(intro x w;repeat'((conv=>whnf);(apply U0;exact gS)))|(refine ae _ (aB ?_ (hK ?_ ?_));focus((repeat' first|exact gR|apply U0);done)))
   all_goals first|omega|(simp;omega)
def zn:CS:=cz [.inl .bytes] zv
def E8:bF aa.prog 11 zn:=bc H3
end
end Go.Proofs.YtelohkknmgaacaaGreatDoor
