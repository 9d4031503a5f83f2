/-
  The company of the starter and its workers (part 4). No condition.
-/
import Derived.Test.YtelohkknmgaacaaGreatDoorZ3
set_option linter.unusedSimpArgs false
set_option linter.unusedVariables false
set_option linter.unusedSectionVars false
set_option linter.defProp false
set_option maxRecDepth 100000
set_option maxHeartbeats 16000000
open Go renaming Conc.Goes.stop→ba
open Go.Act renaming eval→a8
open Go.Conc renaming stepG_cas_hit→ir,stepG_nanotime→me,stepG_semacquire_wait→ly,stepG_semacquire→qt,stepG_inLoop→jq,stepG_cas_miss→pj
open Go.ConcM renaming evStop_book→bf,book_nil→hH,goes_pad→jg
open Go.ConcM.Th renaming deaf→cp
open Go.IntKind renaming i64→aD
open Bool renaming true→E,false→H
open Option renaming some→C,none→U
namespace Go.Proofs.YtelohkknmgaacaaGreatDoor
open Tryz
namespace Rn
open Go Go.Conc Go.ConcN Go.ConcM Go.RowKit Go.Conc.Lib Go.ConcR.Gen
open Go.ConcR(mk)
section
variable{ph:Ph}{s:Nat}{St:Nat->Prop}{w0:World}{gj:Bool}{Fi:Nat->Goroutine->World->Prop}
variable{Ee:Frame}{Ed:Act}{kq:Array Oper}{Eg:Nat}{kt:List Nat}{k₁:List Item}{pB:List Frame}
def zyN(k:Nat)(j:∀k',k'<k->∀(T:Th)(r:Int),(hd T).pc≠.bad->(T.old=1->r=0)->An ph s St w0 gj Fi Ee Ed kq Eg kt k₁ pB k' T r)(pc:Pc)(nw it:Int):An ph s St w0 gj Fi Ee Ed kq Eg kt k₁ pB k {pc:=pc,old:=1,nw:=nw,aw:=H,sv:=H,it:=it,ws:=H} 0:=by
 have e:hd {pc:=pc,old:=1,nw:=nw,aw:=H,sv:=H,it:=it,ws:=H}={pc:=.sq,old:=1,nw:=0,aw:=H,sv:=H,it:=it,ws:=H}:=by simp[hd]
 unfold An;rw[e];refine⟨140,λj1 j7 j8 j9 j10 j11 j12 j13 j14 j15 j16 j17 j18 j19 j20 j21 j22 j23 j24 j25 j26 j27 j28 j29 j30 j31 j32 j33 j34 j35 j36 j37 j38 j39 j40 j41 j42 j43 j44 j45 j46 j47 j48 j49 j50 j51 j52 j53 j54 j55 j56 j57 j58 j59 j60 j61 j62 j63 j64 j65 j66 j67 j68 j69 j70 j71 j72 j73 j74 j75 j76 j77 j78 j79 j80 j81 j82 j83 j84 j85 j86 j87 j88 j89 j90 j91 j92 j93 j94 j95 j96 j97 j98 j99 K L N O P R Q0 Q1 X Q2 Z zCR zCS zCT zCU zCV zCW zCX zCY zCZ zC0 zC1 zC2 zC3 zC4 zC5 zC6 zC7 zC8 zC9 zDa zDb zDc zDd zDe zDf zDg zDh zDi w hF=>?_⟩;simp only[LLS,O6,Ao,qU,n8,f204,Option.getD_some];repeat w_go KX.rely
 refine ba (λD zuj=>?_);replace hF:=KX.rely hF zuj;clear zuj;rcases k with _|k;.trivial
 refine⟨by simp[vF],λ_=>⟨rfl,rfl,λs hs _=>⟨by simp[mv],λ_=>?_⟩⟩⟩;by_cases Q3:it<4
 .rcases v:D.spins with _|_
  .refine⟨({pc:=.c2,old:=1,nw:=9,it:=it},s),by simp[mv],λ_=>⟨_,_,_,stepG_canSpin_ask rfl rfl Y4 rfl func228 Bj Bg Bl Bi (k:=.i64) (n:=it) (by simp[a8]) Q3,hs.asked,dG.asked _,bf Y1 Y1 Y1 Y1 (by simpa[cp,mk]using hH (Mu:=ph.Mu) (Wg:=ph.Wg) 1),Y1,?_⟩⟩;replace hF:=hF.Mx (dG.asked D) hs.asked;rw[v];refine⟨140,?_⟩;walk_nrm;repeat w_go KX.rely
   m_num;s_at KX.rely;refine⟨by simp[vF],λ_=>⟨rfl,rfl,λs hs _=>⟨λh=>?_,λ_=>?_⟩⟩⟩;.exfalso;revert h;simp only[mv];(repeat' split)<;>simp
   obtain⟨mu,ms,wg,b⟩:=s;by_cases d:mu=1
   .subst d;refine⟨({pc:=.t1,old:=1,nw:=9,it:=it},⟨9,ms,wg,b⟩),by simp[mv],λ_=>⟨_,_,_,ir rfl rfl Y4 rfl func203 kT kR kU .i32 kS rfl rfl rfl hs.1.cellSt (hs.1.thaw 0),hs.pG 9,dG.set _ _ (.inl rfl),bf Y1 Y1 Y1 Y1 (by simpa[cp,mk]using book_rw (Mu:=ph.Mu) (Wg:=ph.Wg) 0 (muA ph.Mu) (.inl rfl)),Y1,?_⟩⟩;replace hF:=hF.Mx (dG.set (muA ph.Mu) (.int .i32 9) (.inl rfl)) (hs.pG 9);refine⟨60,?_⟩;walk_nrm;repeat w_go KX.rely
    refine ba (λbd x=>?_);replace hF:=KX.rely hF x;clear x;rcases k with _|k;.trivial
    refine⟨by simp[vF],λ_=>⟨rfl,rfl,λs hs _=>⟨by simp[mv],λ_=>⟨({pc:=.s1,old:=1,nw:=9,it:=it},s),by simp[mv],λ_=>⟨_,_,_,me rfl rfl Y4 rfl func231 xi xg xk xh xj,hs.later,dG.later _,bf Y1 Y1 Y1 Y1 (by simpa[cp,mk]using hH (Mu:=ph.Mu) (Wg:=ph.Wg) 1),Y1,?_⟩⟩⟩⟩⟩;replace hF:=hF.Mx (dG.later bd) hs.later;generalize((bd.os.mono+bd.tick:Nat):Int)=l;refine⟨60,?_⟩;walk_nrm;repeat w_go KX.rely
    s_at KX.rely;refine⟨by simp[vF],λ_=>⟨rfl,rfl,λs hs _=>⟨λh=>?_,λp=>?_⟩⟩⟩
    .have G:s.ms=0:=by
      by_cases hc:s.ms=0;.exact hc
      .simp[mv,hc]at h
     exact ly rfl rfl rfl func232 CN CL CO CM (by simp[a8,msA]) (G▸hs.1.cellSm)
    have y:s.ms≠0:=λhc=>p (by simp[mv,hc]);refine⟨({pc:=.t2,old:=1,nw:=9,it:=it},{s with ms:=s.ms-1}),by simp[mv,y],λ_=>⟨_,_,_,qt rfl rfl Y4 rfl func232 CN CL CO CM (by simp[a8,msA]) hs.1.cellSm y (hs.1.thaw 1),hs.U5 _,dG.set _ _ (.inl rfl),bf Y1 Y1 Y1 Y1 (by simpa[cp,mk]using book_sem (Mu:=ph.Mu) (Wg:=ph.Wg) 0 (msA ph.Mu) (.inl rfl)),Y1,?_⟩⟩;replace hF:=hF.Mx (dG.set (msA ph.Mu) (.int .u32 (s.ms-1)) (.inl rfl)) (hs.U5 (s.ms-1));refine⟨60,?_⟩;walk_nrm;repeat w_go KX.rely
    refine ba (λf z=>?_);replace hF:=KX.rely hF z;clear z;rcases k with _|k;.trivial
    refine⟨by simp[vF],λ_=>⟨rfl,rfl,λs hs _=>⟨by simp[mv],λ_=>?_⟩⟩⟩;rcases B:decide (1000000<aD.wrap (((f.os.mono+f.tick:Nat):Int)-l))with _|_
    .refine⟨({pc:=.r2,old:=1,nw:=9,it:=it,sv:=H},s),by simp[mv],λ_=>⟨_,_,_,me rfl rfl Y4 rfl func231 xi xg xk xh xj,hs.later,dG.later _,bf Y1 Y1 Y1 Y1 (by simpa[cp,mk]using hH (Mu:=ph.Mu) (Wg:=ph.Wg) 1),Y1,?_⟩⟩;replace hF:=hF.Mx (dG.later f) hs.later;generalize((f.os.mono+f.tick:Nat):Int)=J at B⊢;refine⟨60,?_⟩;walk_nrm;repeat w_go KX.rely
     try simp only[B]
     s_at KX.rely;refine⟨by simp[vF],λ_=>⟨rfl,rfl,λs hs _=>⟨λh=>?_,λ_=>?_⟩⟩⟩;.exfalso;revert h;simp only[mv];(repeat' split)<;>simp
     obtain⟨mu,ms,wg,b⟩:=s;by_cases d:mu=2
     .subst d;refine⟨(hd {pc:=.r2,old:=2,nw:=9,aw:=E,sv:=H,it:=0},⟨2,ms,wg,b⟩),by simp[mv],λc=>⟨_,_,_,jk rfl rfl Y4 rfl rfl hs.1.cellSt l4,hs,dG.refl _,bf Y1 Y1 Y1 Y1 (by rw[if_neg (se _ c).1,(se _ c).2];simpa[cp]using hH (Mu:=ph.Mu) (Wg:=ph.Wg) 1),Y1,?_⟩⟩;obtain⟨i,Q5⟩:=j k Y0 {pc:=.r2,old:=2,nw:=9,aw:=E,sv:=H,it:=0} l c (λh=>by simp at h);refine⟨i+40,?_⟩;walk_nrm;repeat w_nl KX.rely
      u_c jq KX.rely hF;exact jg (Q5 _ _ _ _ _ _ _ _ _ _ _ _ _ _ _ _ _ _ _ _ _ _ _ _ _ _ _ _ _ _ _ _ _ _ _ _ _ _ _ _ _ _ _ _ _ _ _ _ _ _ _ _ _ _ _ _ _ _ _ _ _ _ _ _ _ _ _ _ _ _ _ _ _ _ _ _ _ _ _ _ _ _ _ _ _ _ _ _ _ _ _ _ _ _ _ _ _ _ _ _ _ _ _ _ _ _ _ _ _ _ _ _ _ _ _ _ _ _ _ _ _ _ _ _ _ _ _ _ _ _ _ _ _ _ hF) _
     .exact⟨(at_ .bad,⟨mu,ms,wg,b⟩),by simp[mv,d],λh=>absurd rfl h⟩
    .refine⟨({pc:=.r2,old:=1,nw:=9,it:=it,sv:=E},s),by simp[mv],λ_=>⟨_,_,_,me rfl rfl Y4 rfl func231 xi xg xk xh xj,hs.later,dG.later _,bf Y1 Y1 Y1 Y1 (by simpa[cp,mk]using hH (Mu:=ph.Mu) (Wg:=ph.Wg) 1),Y1,?_⟩⟩;replace hF:=hF.Mx (dG.later f) hs.later;generalize((f.os.mono+f.tick:Nat):Int)=J at B⊢;refine⟨60,?_⟩;walk_nrm;repeat w_go KX.rely
     try simp only[B]
     s_at KX.rely;refine⟨by simp[vF],λ_=>⟨rfl,rfl,λs hs _=>⟨λh=>?_,λ_=>?_⟩⟩⟩;.exfalso;revert h;simp only[mv];(repeat' split)<;>simp
     obtain⟨mu,ms,wg,b⟩:=s;by_cases d:mu=2
     .subst d;refine⟨(hd {pc:=.r2,old:=2,nw:=9,aw:=E,sv:=E,it:=0},⟨2,ms,wg,b⟩),by simp[mv],λc=>⟨_,_,_,jk rfl rfl Y4 rfl rfl hs.1.cellSt l4,hs,dG.refl _,bf Y1 Y1 Y1 Y1 (by rw[if_neg (se _ c).1,(se _ c).2];simpa[cp]using hH (Mu:=ph.Mu) (Wg:=ph.Wg) 1),Y1,?_⟩⟩;obtain⟨i,Q5⟩:=j k Y0 {pc:=.r2,old:=2,nw:=9,aw:=E,sv:=E,it:=0} l c (λh=>by simp at h);refine⟨i+40,?_⟩;walk_nrm;repeat w_nl KX.rely
      u_c jq KX.rely hF;exact jg (Q5 _ _ _ _ _ _ _ _ _ _ _ _ _ _ _ _ _ _ _ _ _ _ _ _ _ _ _ _ _ _ _ _ _ _ _ _ _ _ _ _ _ _ _ _ _ _ _ _ _ _ _ _ _ _ _ _ _ _ _ _ _ _ _ _ _ _ _ _ _ _ _ _ _ _ _ _ _ _ _ _ _ _ _ _ _ _ _ _ _ _ _ _ _ _ _ _ _ _ _ _ _ _ _ _ _ _ _ _ _ _ _ _ _ _ _ _ _ _ _ _ _ _ _ _ _ _ _ _ _ _ _ _ _ _ hF) _
     .exact⟨(at_ .bad,⟨mu,ms,wg,b⟩),by simp[mv,d],λh=>absurd rfl h⟩
   .refine⟨({pc:=.r3,old:=1,nw:=9,it:=it},⟨mu,ms,wg,b⟩),by simp[mv,d],λ_=>⟨_,_,_,pj rfl rfl Y4 rfl func203 kT kR kU .i32 kS rfl rfl rfl hs.1.cellSt (hs.1.thaw 0) d,hs,dG.refl _,bf Y1 Y1 Y1 Y1 (by simpa[cp,mk]using book_one (Mu:=ph.Mu) (Wg:=ph.Wg) 0 (muA ph.Mu) H (.inl rfl)),Y1,?_⟩⟩;refine⟨40,?_⟩;walk_nrm;repeat w_go KX.rely
    s_at KX.rely;refine⟨by simp[vF],λ_=>⟨rfl,rfl,λs hs _=>⟨λh=>?_,λ_=>?_⟩⟩⟩;.exfalso;revert h;simp only[mv];(repeat' split)<;>simp
    obtain⟨mu,ms,wg,b⟩:=s;by_cases A:mu=0
    .subst A;refine⟨(hd {pc:=.r3,old:=0,nw:=9,it:=it},⟨0,ms,wg,b⟩),by simp[mv],λc=>⟨_,_,_,jk rfl rfl Y4 rfl rfl hs.1.cellSt l4,hs,dG.refl _,bf Y1 Y1 Y1 Y1 (by rw[if_neg (se _ c).1,(se _ c).2];simpa[cp]using hH (Mu:=ph.Mu) (Wg:=ph.Wg) 1),Y1,?_⟩⟩;obtain⟨i,Q5⟩:=j k Y0 {pc:=.r3,old:=0,nw:=9,it:=it} 0 c (λ_=>rfl);refine⟨i+40,?_⟩;walk_nrm;repeat w_nl KX.rely
     u_c jq KX.rely hF;exact jg (Q5 _ _ _ _ _ _ _ _ _ _ _ _ _ _ _ _ _ _ _ _ _ _ _ _ _ _ _ _ _ _ _ _ _ _ _ _ _ _ _ _ _ _ _ _ _ _ _ _ _ _ _ _ _ _ _ _ _ _ _ _ _ _ _ _ _ _ _ _ _ _ _ _ _ _ _ _ _ _ _ _ _ _ _ _ _ _ _ _ _ _ _ _ _ _ _ _ _ _ _ _ _ _ _ _ _ _ _ _ _ _ _ _ _ _ _ _ _ _ _ _ _ _ _ _ _ _ _ _ _ _ _ _ _ _ hF) _
    .exact⟨(at_ .bad,⟨mu,ms,wg,b⟩),by simp[mv,A],λh=>absurd rfl h⟩
  .refine⟨({pc:=.r1,old:=1,nw:=0,it:=it},s),by simp[mv,Q3],λ_=>⟨_,_,_,stepG_canSpin_ask rfl rfl Y4 rfl func228 Bj Bg Bl Bi (k:=.i64) (n:=it) (by simp[a8]) Q3,hs.asked,dG.asked _,bf Y1 Y1 Y1 Y1 (by simpa[cp,mk]using hH (Mu:=ph.Mu) (Wg:=ph.Wg) 1),Y1,?_⟩⟩;replace hF:=hF.Mx (dG.asked D) hs.asked;rw[v];refine⟨80,?_⟩;walk_nrm;repeat w_go KX.rely
   u_in KX.rely hF;rw[stepG_entry_pure (.tuple #[]) rfl rfl Y4 rfl func229 zdu zds zdv zdt];simp only[goes_go];refine⟨by u_nil,?_⟩;walk_nrm;repeat w_go KX.rely
   s_at KX.rely;refine⟨by simp[vF],λ_=>⟨rfl,rfl,λs hs _=>⟨by simp[mv],λ_=>⟨(hd {pc:=.r1,old:=s.mu,nw:=0,it:=aD.wrap (it+1)},s),by simp[mv],λc=>⟨_,_,_,jk rfl rfl Y4 rfl rfl hs.1.cellSt l4,hs,dG.refl _,bf Y1 Y1 Y1 Y1 (by rw[if_neg (se _ c).1,(se _ c).2];simpa[cp]using hH (Mu:=ph.Mu) (Wg:=ph.Wg) 1),Y1,?_⟩⟩⟩⟩⟩;obtain⟨i,Q5⟩:=j k Y0 {pc:=.r1,old:=s.mu,nw:=0,it:=aD.wrap (it+1)} 0 c (λ_=>rfl);refine⟨i+40,?_⟩;walk_nrm;repeat w_nl KX.rely
   u_c jq KX.rely hF;exact jg (Q5 _ _ _ _ _ _ _ _ _ _ _ _ _ _ _ _ _ _ _ _ _ _ _ _ _ _ _ _ _ _ _ _ _ _ _ _ _ _ _ _ _ _ _ _ _ _ _ _ _ _ _ _ _ _ _ _ _ _ _ _ _ _ _ _ _ _ _ _ _ _ _ _ _ _ _ _ _ _ _ _ _ _ _ _ _ _ _ _ _ _ _ _ _ _ _ _ _ _ _ _ _ _ _ _ _ _ _ _ _ _ _ _ _ _ _ _ _ _ _ _ _ _ _ _ _ _ _ _ _ _ _ _ _ _ hF) _
 .refine⟨({pc:=.c2,old:=1,nw:=9,it:=it},s),by simp[mv],λ_=>⟨_,_,_,stepG_canSpin_no rfl rfl Y4 rfl func228 Bj Bg Bl Bi (k:=.i64) (n:=it) (by simp[a8]) Y0,hs,dG.refl _,bf Y1 Y1 Y1 Y1 (by simpa[cp,mk]using hH (Mu:=ph.Mu) (Wg:=ph.Wg) 1),Y1,?_⟩⟩;refine⟨140,?_⟩;walk_nrm;repeat w_go KX.rely
  m_num;s_at KX.rely;refine⟨by simp[vF],λ_=>⟨rfl,rfl,λs hs _=>⟨λh=>?_,λ_=>?_⟩⟩⟩;.exfalso;revert h;simp only[mv];(repeat' split)<;>simp
  obtain⟨mu,ms,wg,b⟩:=s;by_cases d:mu=1
  .subst d;refine⟨({pc:=.t1,old:=1,nw:=9,it:=it},⟨9,ms,wg,b⟩),by simp[mv],λ_=>⟨_,_,_,ir rfl rfl Y4 rfl func203 kT kR kU .i32 kS rfl rfl rfl hs.1.cellSt (hs.1.thaw 0),hs.pG 9,dG.set _ _ (.inl rfl),bf Y1 Y1 Y1 Y1 (by simpa[cp,mk]using book_rw (Mu:=ph.Mu) (Wg:=ph.Wg) 0 (muA ph.Mu) (.inl rfl)),Y1,?_⟩⟩;replace hF:=hF.Mx (dG.set (muA ph.Mu) (.int .i32 9) (.inl rfl)) (hs.pG 9);refine⟨60,?_⟩;walk_nrm;repeat w_go KX.rely
   refine ba (λbd x=>?_);replace hF:=KX.rely hF x;clear x;rcases k with _|k;.trivial
   refine⟨by simp[vF],λ_=>⟨rfl,rfl,λs hs _=>⟨by simp[mv],λ_=>⟨({pc:=.s1,old:=1,nw:=9,it:=it},s),by simp[mv],λ_=>⟨_,_,_,me rfl rfl Y4 rfl func231 xi xg xk xh xj,hs.later,dG.later _,bf Y1 Y1 Y1 Y1 (by simpa[cp,mk]using hH (Mu:=ph.Mu) (Wg:=ph.Wg) 1),Y1,?_⟩⟩⟩⟩⟩;replace hF:=hF.Mx (dG.later bd) hs.later;generalize((bd.os.mono+bd.tick:Nat):Int)=l;refine⟨60,?_⟩;walk_nrm;repeat w_go KX.rely
   s_at KX.rely;refine⟨by simp[vF],λ_=>⟨rfl,rfl,λs hs _=>⟨λh=>?_,λp=>?_⟩⟩⟩
   .have G:s.ms=0:=by
     by_cases hc:s.ms=0;.exact hc
     .simp[mv,hc]at h
    exact ly rfl rfl rfl func232 CN CL CO CM (by simp[a8,msA]) (G▸hs.1.cellSm)
   have y:s.ms≠0:=λhc=>p (by simp[mv,hc]);refine⟨({pc:=.t2,old:=1,nw:=9,it:=it},{s with ms:=s.ms-1}),by simp[mv,y],λ_=>⟨_,_,_,qt rfl rfl Y4 rfl func232 CN CL CO CM (by simp[a8,msA]) hs.1.cellSm y (hs.1.thaw 1),hs.U5 _,dG.set _ _ (.inl rfl),bf Y1 Y1 Y1 Y1 (by simpa[cp,mk]using book_sem (Mu:=ph.Mu) (Wg:=ph.Wg) 0 (msA ph.Mu) (.inl rfl)),Y1,?_⟩⟩;replace hF:=hF.Mx (dG.set (msA ph.Mu) (.int .u32 (s.ms-1)) (.inl rfl)) (hs.U5 (s.ms-1));refine⟨60,?_⟩;walk_nrm;repeat w_go KX.rely
   refine ba (λf z=>?_);replace hF:=KX.rely hF z;clear z;rcases k with _|k;.trivial
   refine⟨by simp[vF],λ_=>⟨rfl,rfl,λs hs _=>⟨by simp[mv],λ_=>?_⟩⟩⟩;rcases B:decide (1000000<aD.wrap (((f.os.mono+f.tick:Nat):Int)-l))with _|_
   .refine⟨({pc:=.r2,old:=1,nw:=9,it:=it,sv:=H},s),by simp[mv],λ_=>⟨_,_,_,me rfl rfl Y4 rfl func231 xi xg xk xh xj,hs.later,dG.later _,bf Y1 Y1 Y1 Y1 (by simpa[cp,mk]using hH (Mu:=ph.Mu) (Wg:=ph.Wg) 1),Y1,?_⟩⟩;replace hF:=hF.Mx (dG.later f) hs.later;generalize((f.os.mono+f.tick:Nat):Int)=J at B⊢;refine⟨60,?_⟩;walk_nrm;repeat w_go KX.rely
    try simp only[B]
    s_at KX.rely;refine⟨by simp[vF],λ_=>⟨rfl,rfl,λs hs _=>⟨λh=>?_,λ_=>?_⟩⟩⟩;.exfalso;revert h;simp only[mv];(repeat' split)<;>simp
    obtain⟨mu,ms,wg,b⟩:=s;by_cases d:mu=2
    .subst d;refine⟨(hd {pc:=.r2,old:=2,nw:=9,aw:=E,sv:=H,it:=0},⟨2,ms,wg,b⟩),by simp[mv],λc=>⟨_,_,_,jk rfl rfl Y4 rfl rfl hs.1.cellSt l4,hs,dG.refl _,bf Y1 Y1 Y1 Y1 (by rw[if_neg (se _ c).1,(se _ c).2];simpa[cp]using hH (Mu:=ph.Mu) (Wg:=ph.Wg) 1),Y1,?_⟩⟩;obtain⟨i,Q5⟩:=j k Y0 {pc:=.r2,old:=2,nw:=9,aw:=E,sv:=H,it:=0} l c (λh=>by simp at h);refine⟨i+40,?_⟩;walk_nrm;repeat w_nl KX.rely
     u_c jq KX.rely hF;exact jg (Q5 _ _ _ _ _ _ _ _ _ _ _ _ _ _ _ _ _ _ _ _ _ _ _ _ _ _ _ _ _ _ _ _ _ _ _ _ _ _ _ _ _ _ _ _ _ _ _ _ _ _ _ _ _ _ _ _ _ _ _ _ _ _ _ _ _ _ _ _ _ _ _ _ _ _ _ _ _ _ _ _ _ _ _ _ _ _ _ _ _ _ _ _ _ _ _ _ _ _ _ _ _ _ _ _ _ _ _ _ _ _ _ _ _ _ _ _ _ _ _ _ _ _ _ _ _ _ _ _ _ _ _ _ _ _ hF) _
    .exact⟨(at_ .bad,⟨mu,ms,wg,b⟩),by simp[mv,d],λh=>absurd rfl h⟩
   .refine⟨({pc:=.r2,old:=1,nw:=9,it:=it,sv:=E},s),by simp[mv],λ_=>⟨_,_,_,me rfl rfl Y4 rfl func231 xi xg xk xh xj,hs.later,dG.later _,bf Y1 Y1 Y1 Y1 (by simpa[cp,mk]using hH (Mu:=ph.Mu) (Wg:=ph.Wg) 1),Y1,?_⟩⟩;replace hF:=hF.Mx (dG.later f) hs.later;generalize((f.os.mono+f.tick:Nat):Int)=J at B⊢;refine⟨60,?_⟩;walk_nrm;repeat w_go KX.rely
    try simp only[B]
    s_at KX.rely;refine⟨by simp[vF],λ_=>⟨rfl,rfl,λs hs _=>⟨λh=>?_,λ_=>?_⟩⟩⟩;.exfalso;revert h;simp only[mv];(repeat' split)<;>simp
    obtain⟨mu,ms,wg,b⟩:=s;by_cases d:mu=2
    .subst d;refine⟨(hd {pc:=.r2,old:=2,nw:=9,aw:=E,sv:=E,it:=0},⟨2,ms,wg,b⟩),by simp[mv],λc=>⟨_,_,_,jk rfl rfl Y4 rfl rfl hs.1.cellSt l4,hs,dG.refl _,bf Y1 Y1 Y1 Y1 (by rw[if_neg (se _ c).1,(se _ c).2];simpa[cp]using hH (Mu:=ph.Mu) (Wg:=ph.Wg) 1),Y1,?_⟩⟩;obtain⟨i,Q5⟩:=j k Y0 {pc:=.r2,old:=2,nw:=9,aw:=E,sv:=E,it:=0} l c (λh=>by simp at h);refine⟨i+40,?_⟩;walk_nrm;repeat w_nl KX.rely
     u_c jq KX.rely hF;exact jg (Q5 _ _ _ _ _ _ _ _ _ _ _ _ _ _ _ _ _ _ _ _ _ _ _ _ _ _ _ _ _ _ _ _ _ _ _ _ _ _ _ _ _ _ _ _ _ _ _ _ _ _ _ _ _ _ _ _ _ _ _ _ _ _ _ _ _ _ _ _ _ _ _ _ _ _ _ _ _ _ _ _ _ _ _ _ _ _ _ _ _ _ _ _ _ _ _ _ _ _ _ _ _ _ _ _ _ _ _ _ _ _ _ _ _ _ _ _ _ _ _ _ _ _ _ _ _ _ _ _ _ _ _ _ _ _ hF) _
    .exact⟨(at_ .bad,⟨mu,ms,wg,b⟩),by simp[mv,d],λh=>absurd rfl h⟩
  .refine⟨({pc:=.r3,old:=1,nw:=9,it:=it},⟨mu,ms,wg,b⟩),by simp[mv,d],λ_=>⟨_,_,_,pj rfl rfl Y4 rfl func203 kT kR kU .i32 kS rfl rfl rfl hs.1.cellSt (hs.1.thaw 0) d,hs,dG.refl _,bf Y1 Y1 Y1 Y1 (by simpa[cp,mk]using book_one (Mu:=ph.Mu) (Wg:=ph.Wg) 0 (muA ph.Mu) H (.inl rfl)),Y1,?_⟩⟩;refine⟨40,?_⟩;walk_nrm;repeat w_go KX.rely
   s_at KX.rely;refine⟨by simp[vF],λ_=>⟨rfl,rfl,λs hs _=>⟨λh=>?_,λ_=>?_⟩⟩⟩;.exfalso;revert h;simp only[mv];(repeat' split)<;>simp
   obtain⟨mu,ms,wg,b⟩:=s;by_cases A:mu=0
   .subst A;refine⟨(hd {pc:=.r3,old:=0,nw:=9,it:=it},⟨0,ms,wg,b⟩),by simp[mv],λc=>⟨_,_,_,jk rfl rfl Y4 rfl rfl hs.1.cellSt l4,hs,dG.refl _,bf Y1 Y1 Y1 Y1 (by rw[if_neg (se _ c).1,(se _ c).2];simpa[cp]using hH (Mu:=ph.Mu) (Wg:=ph.Wg) 1),Y1,?_⟩⟩;obtain⟨i,Q5⟩:=j k Y0 {pc:=.r3,old:=0,nw:=9,it:=it} 0 c (λ_=>rfl);refine⟨i+40,?_⟩;walk_nrm;repeat w_nl KX.rely
    u_c jq KX.rely hF;exact jg (Q5 _ _ _ _ _ _ _ _ _ _ _ _ _ _ _ _ _ _ _ _ _ _ _ _ _ _ _ _ _ _ _ _ _ _ _ _ _ _ _ _ _ _ _ _ _ _ _ _ _ _ _ _ _ _ _ _ _ _ _ _ _ _ _ _ _ _ _ _ _ _ _ _ _ _ _ _ _ _ _ _ _ _ _ _ _ _ _ _ _ _ _ _ _ _ _ _ _ _ _ _ _ _ _ _ _ _ _ _ _ _ _ _ _ _ _ _ _ _ _ _ _ _ _ _ _ _ _ _ _ _ _ _ _ _ hF) _
   .exact⟨(at_ .bad,⟨mu,ms,wg,b⟩),by simp[mv,A],λh=>absurd rfl h⟩
end
end Rn
end Go.Proofs.YtelohkknmgaacaaGreatDoor
