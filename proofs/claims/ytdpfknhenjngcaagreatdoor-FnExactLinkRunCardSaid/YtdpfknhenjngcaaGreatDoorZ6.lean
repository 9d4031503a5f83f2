/-
  The company of the starter and its workers (part 6). No condition.
-/
import Derived.Test.YtdpfknhenjngcaaGreatDoorZ4
set_option linter.unusedSimpArgs false
set_option linter.unusedVariables false
set_option linter.unusedSectionVars false
set_option maxRecDepth 100000
set_option maxHeartbeats 16000000
open Go.Conc renaming stepG_cas_hit→jO
open Go.ConcM renaming evStop_book→bu
open Go.ConcM.Th renaming deaf→cH
open Go.Proofs.Tryz renaming f189→qJ,func188→jJ,prog→an,func189→zn
open Option renaming getD_some→cS
open Bool renaming true→ae,false→aa
open Option renaming some→ab,none→ak
namespace Go.Proofs.YtdpfknhenjngcaaGreatDoor
namespace Rn
open Go Go.Conc Go.ConcN Go.ConcM Go.RowKit Go.Conc.Lib Go.ConcR.Gen
open Go.ConcR (mk)
section
variable{ph:Ph}{s:Nat}{St:Nat->Prop}{w0:World}{fX:Bool}{Fi:Nat->Goroutine->World->Prop}
variable{EV:Frame}{wj:Act}{lV:Array Oper}{E0:Nat}{lY:List Nat}{k₁:List Item}{qy:List Frame}
theorem zv3(hT:∀k',∃m,∀w,KX ph s St w0 w->GX ph s St fX ae Fi (at_ .ur) k' m (G (EV.at (wj.put ((lV[E0]?).bind (·.dst)) (.tuple #[])) (.inRegion lV lY::k₁)) qy) w)(k:Nat)(pc:Pc)(nw it:Int)(sv ws:Bool)(wst:Int):AX ph s St w0 fX Fi EV wj lV E0 lY k₁ qy k { pc:=pc,old:=2,nw:=nw,aw:=ae,sv:=sv,it:=it,ws:=ws } wst:=by
 have e:hd { pc:=pc,old:=2,nw:=nw,aw:=ae,sv:=sv,it:=it,ws:=ws }={ pc:=.c2,old:=2,nw:=1,aw:=ae,sv:=sv,it:=it,ws:=ws }:=by simp[hd]
 unfold AX
 rw[e]
 cases sv
 ·refine⟨140,λ j1 j7 j8 j9 j10 j11 j12 j13 j14 j15 j16 j17 j18 j19 j20 j21 j22 j23 j24 j25 j26 j27 j28 j29 j30 j31 j32 j33 j34 j35 j36 j37 j38 j39 j40 j41 j42 j43 j44 j45 j46 j47 j48 j49 j50 j51 j52 j53 j54 j55 j56 j57 j58 j59 j60 j61 j62 j63 j64 j65 j66 j67 j68 j69 j70 j71 j72 j73 j74 j75 j76 j77 j78 j79 j80 j81 j82 j83 j84 j85 j86 j87 j88 j89 j90 j91 j92 j93 j94 j95 j96 j97 j98 j99 zge zgf zgg zgh zgi zgj zgk zgl zgm zgn zgo zgp zgq zgr zgs zgt zgu zgv zgw zgx zgy zgz zgA zgB zgC zgD zgE zgF zgG zgH zgI zgJ zgK zgL zgM zgN zgO zgP zgQ w hF=>?_⟩
  simp only[LLS,Pq,AY,rT,pC,qJ,cS]
  repeat w_go KX.rely
  m_num
  s_at KX.rely
  refine⟨by simp[we],λ _=>⟨rfl,rfl,λ s hs _=>⟨λ h=>?_,λ _=>?_⟩⟩⟩
  ·exfalso;revert h;simp only[mv];(repeat' split)<;>simp
  obtain⟨mu,ms,wg,DH⟩:=s
  by_cases hm:mu=2
  ·subst hm
   refine⟨(at_ .le,⟨1,ms,wg,DH⟩),by simp[mv],λ _=>⟨_,_,_,jO rfl rfl (by k_ne) rfl jJ mF mD mG .i32 mE rfl rfl rfl hs.1.cellSt (hs.1.thaw 0),hs.setMu 1,dZ.set _ _ (.inl rfl),bu (by simp) (by simp) (by simp) (by simp) (by simpa [cH,mk] using book_rw (Mu:=ph.Mu) (Wg:=ph.Wg) 0 (muA ph.Mu) (.inl rfl)),(by simp),?_⟩⟩
   replace hF:=hF.Uw (dZ.set (muA ph.Mu) (.int .i32 1) (.inl rfl)) (hs.setMu 1)
   refine⟨60,?_⟩
   walk_nrm
   repeat w_go KX.rely
   s_at KX.rely
   refine⟨by simp[we],λ _=>⟨rfl,rfl,λ s hs _=>⟨by simp[mv],λ _=>⟨(at_ .la,s),by simp[mv],λ _=>⟨_,_,_,stepG_mark0 .enable (by simp) rfl rfl (by k_ne) rfl cC.f_enable (x_enable_n aD) (x_enable_b aD) (x_enable_x aD) (x_enable_f aD),hs,dZ.refl _,bu (by simp) (by simp) (by simp) (by simp) (by simpa [cH,mk] using book_en (Mu:=ph.Mu) (Wg:=ph.Wg) 0),(by simp),?_⟩⟩⟩⟩⟩
   refine⟨30,?_⟩
   walk_nrm
   repeat w_go KX.rely
   m_convG an cC.underlying_tUP YQ zgX hF.mu.choose_spec KX.rely hF
   s_at KX.rely
   refine⟨by simp[we],λ _=>⟨rfl,rfl,λ s hs _=>⟨by simp[mv],λ _=>⟨(at_ .ur,s),by simp[mv],λ _=>⟨_,_,_,stepG_markAt .acquire (by simp) rfl rfl (by k_ne) rfl cC.f_acquire (x_acquire_n aD) (x_acquire_b aD) (x_acquire_x aD) (x_acquire_f aD) (by simp[Act.eval,muA]),hs,dZ.refl _,rfl,(by simp),?_⟩⟩⟩⟩⟩
   obtain⟨mT,wh⟩:=hT k
   refine⟨mT+20,?_⟩
   walk_nrm
   repeat w_go KX.rely
   u_leave0 zn KX.rely hF
   repeat w_go KX.rely
   exact goes_pad (wh _ hF) _
  ·exact⟨(at_ .bad,⟨mu,ms,wg,DH⟩),by simp[mv,hm],λ h=>absurd rfl h⟩
 ·refine⟨140,λ j1 j7 j8 j9 j10 j11 j12 j13 j14 j15 j16 j17 j18 j19 j20 j21 j22 j23 j24 j25 j26 j27 j28 j29 j30 j31 j32 j33 j34 j35 j36 j37 j38 j39 j40 j41 j42 j43 j44 j45 j46 j47 j48 j49 j50 j51 j52 j53 j54 j55 j56 j57 j58 j59 j60 j61 j62 j63 j64 j65 j66 j67 j68 j69 j70 j71 j72 j73 j74 j75 j76 j77 j78 j79 j80 j81 j82 j83 j84 j85 j86 j87 j88 j89 j90 j91 j92 j93 j94 j95 j96 j97 j98 j99 zge zgf zgg zgh zgi zgj zgk zgl zgm zgn zgo zgp zgq zgr zgs zgt zgu zgv zgw zgx zgy zgz zgA zgB zgC zgD zgE zgF zgG zgH zgI zgJ zgK zgL zgM zgN zgO zgP zgQ w hF=>?_⟩
  simp only[LLS,Pq,AY,rT,pC,qJ,cS]
  repeat w_go KX.rely
  m_num
  s_at KX.rely
  refine⟨by simp[we],λ _=>⟨rfl,rfl,λ s hs _=>⟨λ h=>?_,λ _=>?_⟩⟩⟩
  ·exfalso;revert h;simp only[mv];(repeat' split)<;>simp
  obtain⟨mu,ms,wg,DH⟩:=s
  by_cases hm:mu=2
  ·subst hm
   refine⟨(at_ .le,⟨1,ms,wg,DH⟩),by simp[mv],λ _=>⟨_,_,_,jO rfl rfl (by k_ne) rfl jJ mF mD mG .i32 mE rfl rfl rfl hs.1.cellSt (hs.1.thaw 0),hs.setMu 1,dZ.set _ _ (.inl rfl),bu (by simp) (by simp) (by simp) (by simp) (by simpa [cH,mk] using book_rw (Mu:=ph.Mu) (Wg:=ph.Wg) 0 (muA ph.Mu) (.inl rfl)),(by simp),?_⟩⟩
   replace hF:=hF.Uw (dZ.set (muA ph.Mu) (.int .i32 1) (.inl rfl)) (hs.setMu 1)
   refine⟨60,?_⟩
   walk_nrm
   repeat w_go KX.rely
   s_at KX.rely
   refine⟨by simp[we],λ _=>⟨rfl,rfl,λ s hs _=>⟨by simp[mv],λ _=>⟨(at_ .la,s),by simp[mv],λ _=>⟨_,_,_,stepG_mark0 .enable (by simp) rfl rfl (by k_ne) rfl cC.f_enable (x_enable_n aD) (x_enable_b aD) (x_enable_x aD) (x_enable_f aD),hs,dZ.refl _,bu (by simp) (by simp) (by simp) (by simp) (by simpa [cH,mk] using book_en (Mu:=ph.Mu) (Wg:=ph.Wg) 0),(by simp),?_⟩⟩⟩⟩⟩
   refine⟨30,?_⟩
   walk_nrm
   repeat w_go KX.rely
   m_convG an cC.underlying_tUP YQ zgX hF.mu.choose_spec KX.rely hF
   s_at KX.rely
   refine⟨by simp[we],λ _=>⟨rfl,rfl,λ s hs _=>⟨by simp[mv],λ _=>⟨(at_ .ur,s),by simp[mv],λ _=>⟨_,_,_,stepG_markAt .acquire (by simp) rfl rfl (by k_ne) rfl cC.f_acquire (x_acquire_n aD) (x_acquire_b aD) (x_acquire_x aD) (x_acquire_f aD) (by simp[Act.eval,muA]),hs,dZ.refl _,rfl,(by simp),?_⟩⟩⟩⟩⟩
   obtain⟨mT,wh⟩:=hT k
   refine⟨mT+20,?_⟩
   walk_nrm
   repeat w_go KX.rely
   u_leave0 zn KX.rely hF
   repeat w_go KX.rely
   exact goes_pad (wh _ hF) _
  ·exact⟨(at_ .bad,⟨mu,ms,wg,DH⟩),by simp[mv,hm],λ h=>absurd rfl h⟩
end
end Rn
end Go.Proofs.YtdpfknhenjngcaaGreatDoor
