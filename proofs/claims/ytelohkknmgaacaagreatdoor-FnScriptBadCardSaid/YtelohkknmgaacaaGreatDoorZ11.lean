/-
  The lone walks (part 11). No condition.
-/
import Derived.Test.YtelohkknmgaacaaGreatDoorZ9
import Derived.Test.YtelohkknmgaacaaGreatDoorZ10
set_option linter.unusedSimpArgs false
set_option linter.unusedVariables false
set_option linter.unusedSectionVars false
set_option linter.defProp false
set_option maxRecDepth 100000
set_option maxHeartbeats 2000000
open Int renaming toNat→aC
open List renaming length_append→bJ,eq_nil_of_length_eq_zero→cq,append_assoc→fv,singleton_append→pJ
open UInt8 renaming toNat_inj→ze
open Bool renaming true→E,false→H
open Option renaming some→C,none→U
namespace Go.Proofs.YtelohkknmgaacaaGreatDoor
section
open Go.RowKit
open Ab
def F1(c:List UInt8):Prop:=c=[]\/∃d,c=d++[10]
def Pz:∀s:List UInt8,∃c r,s=c++r/\10∉r/\F1 c
 |[]=>⟨[],[],rfl,Y1,.inl rfl⟩|x::s=>by
  have⟨c,r,h,a,b⟩:=Pz s;rcases b with rfl|⟨d,rfl⟩
  .by_cases e:x=10;.exact⟨[10],r,by simp[h,e],a,.inr ⟨[],rfl⟩⟩
   .exact⟨[],x::r,by simp[h],Y8,.inl rfl⟩
  .exact⟨x::(d++[10]),r,by simp[h],a,.inr ⟨x::d,rfl⟩⟩
variable{c r:List UInt8}
def zeF(h:F1 c)(a:c≠[]):(c++r).getD (c.length-1) 0=10:=by
 rcases h with rfl|⟨d,rfl⟩;.cases a rfl
 .simp
def zi8(h:10∉r){n:Nat}(b:c.length<=n)(d:n<(c++r).length):(c++r).getD n 0≠10:=by grind
def Di:bK:=[]
def yU:aR aa.prog Di:=an trivial
def vD:DA [.inl .str]->(DV->Prop)->Prop:=λ⟨s,_⟩K=>af (s.length<=1000000)<|∃c r:List UInt8,(s=c++r/\10∉r/\F1 c)/\K (.l (.str c))
def C7:fi aa.prog 14 [.inl .str] vD:=by
 apply aV (TR:=eT) aJ au yU (Rn.fM Tryz.func14) rfl;rintro⟨(s:List UInt8),_⟩K⟨b,c,r,⟨a,g,i⟩,hK⟩-;have b:=b;have a:=a;have j:s.length=c.length+r.length:=by rw[a,bJ]
 repeat'(conv=>whnf);first|apply U0;exact gS|refineλ(y:Int)(d:0<=y)a=>?_
 apply dt.mI {n:Nat//c.length<=n/\n<=s.length} (λ⟨n,_⟩=>[(3,.l (.v (.int .i64 n)))]) (λ_=>[]) (λ⟨n,_⟩=>n) ⟨s.length,Y0,Nat.le_refl _⟩ [];·(repeat'(first|(apply U0;exact gV)|exact aA))
 rintro⟨n,u,m⟩;by_cases d:n=0
 .have p:c=[]:=cq Y0;rw[p]at hK;repeat'(conv=>whnf);first|apply U0;exact gS|refine gB ?_ ?_<;>intro b h<;>try exact bG
  (apply gI hK;repeat' first|exact gR|apply U0)
 have e:(((n:Nat):Int)-1).toNat=n-1:=Y0;by_cases o:n=c.length
 .have q:decide ((((s.getD (((n:Nat):Int)-1).toNat 0).toNat:Nat):Int)=10)=E:=by rw[e,a,o,zeF i (λk=>by rw[k]at o;exact d o)];rfl
  have t:(s.drop (aC 0)).take (((n:Nat):Int).toNat-aC 0)=c:=by rw[a,o];simp
  rw[<-t]at hK;repeat'(conv=>whnf);first|apply U0;exact gS|apply gU;exact gA|refine gB ?_ ?_<;>intro b h<;>try exact bG
  (apply gI hK;repeat' first|exact gR|apply U0)
 .have q:decide ((((s.getD (((n:Nat):Int)-1).toNat 0).toNat:Nat):Int)=10)=H:=by refine decide_eq_false λk=>zi8 (c:=c) (n:=n-1) g Y0 (by rw[<-a];omega) ?_;rw[e,a]at k;exact ze.1 (by show _=10;omega)
  repeat'(conv=>whnf);first|apply U0;exact gS|apply gU;exact gA|refine gB ?_ ?_<;>intro b h<;>try exact bG
  (refine ae ⟨n-1,Y0⟩ (ae [] (aB ?_ ?_)))
  .show n-1<n;omega
  .have f:((n-1:Nat):Int)=(n:Int)-1:=Y0;repeat'((apply U0;focus(rfl)))
   apply U0 (congrArg (λn=>LV.v (Value.int .i64 n)) f);repeat'(first|(apply U0;focus(rfl))|exact aA)
def vx:CS:=cz [.inl .str] vD
def BX:bF aa.prog 14 vx:=bc C7
def Se:bK:=[]
def Iq:aR aa.prog Se:=an trivial
def Hv:DA [.inl .str]->(DV->Prop)->Prop:=λ⟨s,_⟩K=>af (s.length<=1000000)<|∃c w:List UInt8,(s=c++(w++[10])/\10∉w/\F1 c)/\K (.l (.str (w++[10])))
def RF:fi aa.prog 15 [.inl .str] Hv:=by
 apply aV (TR:=eT) aJ au Iq (Rn.fM Tryz.func15) rfl;rintro⟨(s:List UInt8),_⟩K⟨b,c,w,⟨a,f,g⟩,hK⟩-;have b:=b;have a:s=(c++w)++[10]:=Y7;have j:s.length=c.length+w.length+1:=Y8;repeat'((conv=>whnf);(apply U0;exact gS))
 apply dt.mI {i:Int//(c.length:Int)<=i+1/\i+1<(s.length:Int)} (λ⟨i,_⟩=>[(3,.l (.v (.int .i64 i)))]) (λ_=>[]) (λ⟨i,_⟩=>(i+1).toNat) ⟨(s.length:Int)-2,Y0⟩ [];·(repeat'(first|(apply U0;exact gV)|exact aA))
 rintro⟨i,o,m⟩;by_cases d:i<0
 .have p:c=[]:=cq Y0;have t:s=w++[10]:=Y7;rw[<-t]at hK;repeat'(conv=>whnf);first|apply U0;exact gS|refine gB ?_ ?_<;>intro b h<;>try exact bG
  (apply gI hK;repeat' first|exact gR|apply U0)
 by_cases r:i+1=c.length
 .have q:decide ((((s.getD i.toNat 0).toNat:Nat):Int)=10)=E:=by have e:i.toNat=c.length-1:=Y0;rw[e,a,fv,zeF g (λk=>Y8)];rfl
  have t:(s.drop (i+1).toNat).take (((s.length:Nat):Int).toNat-(i+1).toNat)=w++[10]:=by rw[List.take_of_length_le Y1,show(i+1).toNat=c.length by omega,a,fv,List.drop_left]
  rw[<-t]at hK;repeat'(conv=>whnf);first|apply U0;exact gS|apply gU;exact gA|refine gB ?_ ?_<;>intro b h<;>try exact bG
  (apply gI hK;repeat' first|exact gR|apply U0)
 .have q:decide ((((s.getD i.toNat 0).toNat:Nat):Int)=10)=H:=by
   refine decide_eq_false λk=>zi8 (c:=c) (n:=i.toNat) f Y0 (by simp;omega) ?_;have e:s.getD i.toNat 0=(c++w).getD i.toNat 0:=by grind
   rw[e]at k;exact ze.1 Y8
  repeat'(conv=>whnf);first|apply U0;exact gS|apply gU;exact gA|refine gB ?_ ?_<;>intro b h<;>try exact bG
  (refine ae ⟨i-1,Y0⟩ (ae [] (aB ?_ ?_)));.grind
  ·(repeat'(first|(apply U0;exact gV)|exact aA))
def Hf:CS:=cz [.inl .str] Hv
def MR:bF aa.prog 15 Hf:=bc RF
def Ga(c:UInt8)(b:List UInt8):∀a:List UInt8,dT c (a++c::b)=dT c a++dT c b
 |[]=>by simp[dT]|x::a=>by
  have i:=Ga c b a;by_cases d:x=c;.simp[dT,d,i]
  .cases h:dT c a with|nil=>cases I1 c a h|cons p q=>simp[dT,d,i,h]
def Pk{c:UInt8}:∀{r:List UInt8},c∉r->dT c r=[r]|[],_=>rfl|x::r,h=>by have a:¬x=c:=Y8;simp[dT,a,Pk (c:=c) (r:=r) λe=>h (by simp[e])]
def zfT(h:10∉r)(a:F1 c):(dT 10 (c++r)).dropLast=(dT 10 c).dropLast:=by
 rcases a with rfl|⟨d,rfl⟩;.rw[List.nil_append,Pk h];rfl
 .rw[fv,pJ,Ga,Pk h,Ga];simp[dT]
def zf2(h:10∉r)(b:F1 c)(l:¬400<(c++r).length):gY c=gY (c++r):=by have a:¬400<c.length:=Y8;unfold gY;rw[if_neg l,if_neg a];unfold zbL;rw[zfT h b]
def zrn(n:Nat)(h:n<1000):10∉lM n:=by
 have q:∀m,m<10->chr m≠10:=Y5;unfold lM;split;.grind
 .grind
def Z7:∀(x:lI)(l:List (List UInt8)),F1 (eS x l).s
 |_,[]=>.inl rfl|x,s::r=>by
  rcases Z7 (lP x s).x r with h|⟨d,h⟩;.exact .inr ⟨(lP x s).s,by simp[eS,h]⟩
  .exact .inr ⟨(lP x s).s++10::d,by simp[eS,h]⟩
def zlz(x:lI):lP x [122,122,122]=⟨x,oJ⟩:=rfl
def zm6(f:F1 c)(l:¬400<c.length+4):∃A w,gY c=A++(w++[10])/\10∉w/\F1 A/\gY (c++[122,122,122,10])=A++oJ++[10]++(w++[10]):=by
 have a:¬400<c.length:=Y0;have b:¬400<(c++[122,122,122,10]).length:=by simp;omega
 have e:(dT 10 (c++[122,122,122,10])).dropLast=(dT 10 c).dropLast++[[122,122,122]]:=by
  rcases f with rfl|⟨d,rfl⟩;.rfl
  .rw[fv,pJ,Ga,Ga];simp[dT]
 refine⟨(eS Eh (dT 10 c).dropLast).s,zhS++lM (fo (eS Eh (dT 10 c).dropLast).x).length,?_,?_,Z7 _ _,?_⟩;.unfold gY;rw[if_neg a];rfl
 .intro h;rcases List.mem_append.1 h with h|h;.revert h;decide
  .exact zrn _ (by have:=EI (eS Eh (dT 10 c).dropLast).x;omega) h
 .unfold gY;rw[if_neg b];unfold zbL;rw[e,Jo];simp[eS,zlz];simp[zhV]
def zm5(t:List UInt8):0<(gY t).length:=by
 unfold gY;split;.decide
 .unfold zbL zhV;simp[bJ,List.length_cons];omega
end
end Go.Proofs.YtelohkknmgaacaaGreatDoor
