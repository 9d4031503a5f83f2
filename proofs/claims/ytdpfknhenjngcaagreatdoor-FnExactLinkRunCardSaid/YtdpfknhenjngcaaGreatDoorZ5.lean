/-
  The company of the starter and its workers (part 5). No condition.
-/
import Derived.Test.YtdpfknhenjngcaaGreatDoorZ4
set_option linter.unusedSimpArgs false
set_option linter.unusedVariables false
set_option linter.unusedSectionVars false
set_option maxRecDepth 100000
set_option maxHeartbeats 16000000
open Go renaming Conc.Goes.stop→bn
open Go.Act renaming eval→bX
open Go.Conc renaming stepG_cas_hit→jO,stepG_nanotime→nM,stepG_semacquire_wait→mR,stepG_semacquire→q8,stepG_inLoop→kO,stepG_cas_miss→qk
open Go.ConcM renaming evStop_book→bu,book_nil→jy,goes_pad→kD
open Go.ConcM.Th renaming deaf→cH
open Go.IntKind renaming i64→aL
open Go.Proofs.Tryz renaming func188→jJ,func232→p9,func233→zo
open Bool renaming true→ae,false→aa
open Option renaming some→ab,none→ak
namespace Go.Proofs.YtdpfknhenjngcaaGreatDoor
namespace Rn
open Go Go.Conc Go.ConcN Go.ConcM Go.RowKit Go.Conc.Lib Go.ConcR.Gen
open Go.ConcR (mk)
section
variable{ph:Ph}{s:Nat}{St:Nat->Prop}{w0:World}{fX:Bool}{Fi:Nat->Goroutine->World->Prop}
variable{EV:Frame}{wj:Act}{lV:Array Oper}{E0:Nat}{lY:List Nat}{k₁:List Item}{qy:List Frame}
theorem zzD(k:Nat)(ih:∀k',k'<k->∀(T:Th) (wst:Int),(hd T).pc≠.bad->(T.old=1->wst=0)->AX ph s St w0 fX Fi EV wj lV E0 lY k₁ qy k' T wst)(pc:Pc)(nw it:Int):AX ph s St w0 fX Fi EV wj lV E0 lY k₁ qy k { pc:=pc,old:=1,nw:=nw,aw:=aa,sv:=aa,it:=it,ws:=aa } 0:=by
 have e:hd { pc:=pc,old:=1,nw:=nw,aw:=aa,sv:=aa,it:=it,ws:=aa }={ pc:=.sq,old:=1,nw:=0,aw:=aa,sv:=aa,it:=it,ws:=aa }:=by simp[hd]
 unfold AX
 rw[e]
 refine⟨140,λ j1 j7 j8 j9 j10 j11 j12 j13 j14 j15 j16 j17 j18 j19 j20 j21 j22 j23 j24 j25 j26 j27 j28 j29 j30 j31 j32 j33 j34 j35 j36 j37 j38 j39 j40 j41 j42 j43 j44 j45 j46 j47 j48 j49 j50 j51 j52 j53 j54 j55 j56 j57 j58 j59 j60 j61 j62 j63 j64 j65 j66 j67 j68 j69 j70 j71 j72 j73 j74 j75 j76 j77 j78 j79 j80 j81 j82 j83 j84 j85 j86 j87 j88 j89 j90 j91 j92 j93 j94 j95 j96 j97 j98 j99 zge zgf zgg zgh zgi zgj zgk zgl zgm zgn zgo zgp zgq zgr zgs zgt zgu zgv zgw zgx zgy zgz zgA zgB zgC zgD zgE zgF zgG zgH zgI zgJ zgK zgL zgM zgN zgO zgP zgQ w hF=>?_⟩
 simp only[LLS,Pq,AY,rT,pC,Tryz.f189,Option.getD_some]
 repeat w_go KX.rely
 refine bn (λ zmF zuS=>?_)
 replace hF:=KX.rely hF zuS
 clear zuS
 rcases k with _|k
 ·trivial
 refine⟨by simp[we],λ _=>⟨rfl,rfl,λ s hs _=>⟨by simp[mv],λ _=>?_⟩⟩⟩
 by_cases h4:it<4
 ·rcases hsp:zmF.spins with _|_
  ·refine⟨({ pc:=.c2,old:=1,nw:=9,it:=it },s),by simp[mv],λ _=>⟨_,_,_,stepG_canSpin_ask rfl rfl (by k_ne) rfl Tryz.func229 Bw Bu Bx Bv (k:=.i64) (n:=it) (by simp[bX]) h4,hs.asked,dZ.asked _,bu (by simp) (by simp) (by simp) (by simp) (by simpa [cH,mk] using jy (Mu:=ph.Mu) (Wg:=ph.Wg) 1),(by simp),?_⟩⟩
   replace hF:=hF.Uw (dZ.asked zmF) hs.asked
   rw[hsp]
   refine⟨140,?_⟩
   walk_nrm
   repeat w_go KX.rely
   m_num
   s_at KX.rely
   refine⟨by simp[we],λ _=>⟨rfl,rfl,λ s hs _=>⟨λ h=>?_,λ _=>?_⟩⟩⟩
   ·exfalso;revert h;simp only[mv];(repeat' split)<;>simp
   obtain⟨mu,ms,wg,DH⟩:=s
   by_cases hm:mu=1
   ·subst hm
    refine⟨({ pc:=.t1,old:=1,nw:=9,it:=it },⟨9,ms,wg,DH⟩),by simp[mv],λ _=>⟨_,_,_,jO rfl rfl (by k_ne) rfl jJ mF mD mG .i32 mE rfl rfl rfl hs.1.cellSt (hs.1.thaw 0),hs.setMu 9,dZ.set _ _ (.inl rfl),bu (by simp) (by simp) (by simp) (by simp) (by simpa [cH,mk] using book_rw (Mu:=ph.Mu) (Wg:=ph.Wg) 0 (muA ph.Mu) (.inl rfl)),(by simp),?_⟩⟩
    replace hF:=hF.Uw (dZ.set (muA ph.Mu) (.int .i32 9) (.inl rfl)) (hs.setMu 9)
    refine⟨60,?_⟩
    walk_nrm
    repeat w_go KX.rely
    refine bn (λ aJ bA=>?_)
    replace hF:=KX.rely hF bA
    clear bA
    rcases k with _|k
    ·trivial
    refine⟨by simp[we],λ _=>⟨rfl,rfl,λ s hs _=>⟨by simp[mv],λ _=>⟨({ pc:=.s1,old:=1,nw:=9,it:=it },s),by simp[mv],λ _=>⟨_,_,_,nM rfl rfl (by k_ne) rfl p9 xz xx xB xy xA,hs.later,dZ.later _,bu (by simp) (by simp) (by simp) (by simp) (by simpa [cH,mk] using jy (Mu:=ph.Mu) (Wg:=ph.Wg) 1),(by simp),?_⟩⟩⟩⟩⟩
    replace hF:=hF.Uw (dZ.later aJ) hs.later
    generalize ((aJ.os.mono+aJ.tick:Nat):Int)=tv
    refine⟨60,?_⟩
    walk_nrm
    repeat w_go KX.rely
    s_at KX.rely
    refine⟨by simp[we],λ _=>⟨rfl,rfl,λ s hs _=>⟨λ h=>?_,λ fh=>?_⟩⟩⟩
    ·have h0:s.ms=0:=by
      by_cases hc:s.ms=0
      ·exact hc
      ·simp[mv,hc] at h
     exact mR rfl rfl rfl zo C2 CZ C3 C1 (by simp[bX,msA]) (h0▸hs.1.cellSm)
    have h1:s.ms≠0:=λ hc=>fh (by simp[mv,hc])
    refine⟨({ pc:=.t2,old:=1,nw:=9,it:=it },{ s with ms:=s.ms-1 }),by simp[mv,h1],λ _=>⟨_,_,_,q8 rfl rfl (by k_ne) rfl zo C2 CZ C3 C1 (by simp[bX,msA]) hs.1.cellSm h1 (hs.1.thaw 1),hs.setMs _,dZ.set _ _ (.inl rfl),bu (by simp) (by simp) (by simp) (by simp) (by simpa [cH,mk] using book_sem (Mu:=ph.Mu) (Wg:=ph.Wg) 0 (msA ph.Mu) (.inl rfl)),(by simp),?_⟩⟩
    replace hF:=hF.Uw (dZ.set (msA ph.Mu) (.int .u32 (s.ms-1)) (.inl rfl)) (hs.setMs (s.ms-1))
    refine⟨60,?_⟩
    walk_nrm
    repeat w_go KX.rely
    refine bn (λ ed er=>?_)
    replace hF:=KX.rely hF er
    clear er
    rcases k with _|k
    ·trivial
    refine⟨by simp[we],λ _=>⟨rfl,rfl,λ s hs _=>⟨by simp[mv],λ _=>?_⟩⟩⟩
    rcases hB:decide (1000000<aL.wrap (((ed.os.mono+ed.tick:Nat):Int)-tv)) with _|_
    ·refine⟨({ pc:=.r2,old:=1,nw:=9,it:=it,sv:=aa },s),by simp[mv],λ _=>⟨_,_,_,nM rfl rfl (by k_ne) rfl p9 xz xx xB xy xA,hs.later,dZ.later _,bu (by simp) (by simp) (by simp) (by simp) (by simpa [cH,mk] using jy (Mu:=ph.Mu) (Wg:=ph.Wg) 1),(by simp),?_⟩⟩
     replace hF:=hF.Uw (dZ.later ed) hs.later
     generalize ((ed.os.mono+ed.tick:Nat):Int)=tw at hB ⊢
     refine⟨60,?_⟩
     walk_nrm
     repeat w_go KX.rely
     try simp only[hB]
     s_at KX.rely
     refine⟨by simp[we],λ _=>⟨rfl,rfl,λ s hs _=>⟨λ h=>?_,λ _=>?_⟩⟩⟩
     ·exfalso;revert h;simp only[mv];(repeat' split)<;>simp
     obtain⟨mu,ms,wg,DH⟩:=s
     by_cases hm:mu=2
     ·subst hm
      refine⟨(hd { pc:=.r2,old:=2,nw:=9,aw:=ae,sv:=aa,it:=0 },⟨2,ms,wg,DH⟩),by simp[mv],λ hb=>⟨_,_,_,kI rfl rfl (by k_ne) rfl rfl hs.1.cellSt nG,hs,dZ.refl _,bu (by simp) (by simp) (by simp) (by simp) (by rw[if_neg (sT _ hb).1,(sT _ hb).2];simpa [cH] using jy (Mu:=ph.Mu) (Wg:=ph.Wg) 1),(by simp),?_⟩⟩
      obtain⟨mH,hH⟩:=ih k (by omega) { pc:=.r2,old:=2,nw:=9,aw:=ae,sv:=aa,it:=0 } tv hb (λ h=>by simp at h)
      refine⟨mH+40,?_⟩
      walk_nrm
      repeat w_nl KX.rely
      u_c kO KX.rely hF
      exact kD (hH _ _ _ _ _ _ _ _ _ _ _ _ _ _ _ _ _ _ _ _ _ _ _ _ _ _ _ _ _ _ _ _ _ _ _ _ _ _ _ _ _ _ _ _ _ _ _ _ _ _ _ _ _ _ _ _ _ _ _ _ _ _ _ _ _ _ _ _ _ _ _ _ _ _ _ _ _ _ _ _ _ _ _ _ _ _ _ _ _ _ _ _ _ _ _ _ _ _ _ _ _ _ _ _ _ _ _ _ _ _ _ _ _ _ _ _ _ _ _ _ _ _ _ _ _ _ _ _ _ _ _ _ _ _ hF) _
     ·exact⟨(at_ .bad,⟨mu,ms,wg,DH⟩),by simp[mv,hm],λ h=>absurd rfl h⟩
    ·refine⟨({ pc:=.r2,old:=1,nw:=9,it:=it,sv:=ae },s),by simp[mv],λ _=>⟨_,_,_,nM rfl rfl (by k_ne) rfl p9 xz xx xB xy xA,hs.later,dZ.later _,bu (by simp) (by simp) (by simp) (by simp) (by simpa [cH,mk] using jy (Mu:=ph.Mu) (Wg:=ph.Wg) 1),(by simp),?_⟩⟩
     replace hF:=hF.Uw (dZ.later ed) hs.later
     generalize ((ed.os.mono+ed.tick:Nat):Int)=tw at hB ⊢
     refine⟨60,?_⟩
     walk_nrm
     repeat w_go KX.rely
     try simp only[hB]
     s_at KX.rely
     refine⟨by simp[we],λ _=>⟨rfl,rfl,λ s hs _=>⟨λ h=>?_,λ _=>?_⟩⟩⟩
     ·exfalso;revert h;simp only[mv];(repeat' split)<;>simp
     obtain⟨mu,ms,wg,DH⟩:=s
     by_cases hm:mu=2
     ·subst hm
      refine⟨(hd { pc:=.r2,old:=2,nw:=9,aw:=ae,sv:=ae,it:=0 },⟨2,ms,wg,DH⟩),by simp[mv],λ hb=>⟨_,_,_,kI rfl rfl (by k_ne) rfl rfl hs.1.cellSt nG,hs,dZ.refl _,bu (by simp) (by simp) (by simp) (by simp) (by rw[if_neg (sT _ hb).1,(sT _ hb).2];simpa [cH] using jy (Mu:=ph.Mu) (Wg:=ph.Wg) 1),(by simp),?_⟩⟩
      obtain⟨mH,hH⟩:=ih k (by omega) { pc:=.r2,old:=2,nw:=9,aw:=ae,sv:=ae,it:=0 } tv hb (λ h=>by simp at h)
      refine⟨mH+40,?_⟩
      walk_nrm
      repeat w_nl KX.rely
      u_c kO KX.rely hF
      exact kD (hH _ _ _ _ _ _ _ _ _ _ _ _ _ _ _ _ _ _ _ _ _ _ _ _ _ _ _ _ _ _ _ _ _ _ _ _ _ _ _ _ _ _ _ _ _ _ _ _ _ _ _ _ _ _ _ _ _ _ _ _ _ _ _ _ _ _ _ _ _ _ _ _ _ _ _ _ _ _ _ _ _ _ _ _ _ _ _ _ _ _ _ _ _ _ _ _ _ _ _ _ _ _ _ _ _ _ _ _ _ _ _ _ _ _ _ _ _ _ _ _ _ _ _ _ _ _ _ _ _ _ _ _ _ _ hF) _
     ·exact⟨(at_ .bad,⟨mu,ms,wg,DH⟩),by simp[mv,hm],λ h=>absurd rfl h⟩
   ·
    refine⟨({ pc:=.r3,old:=1,nw:=9,it:=it },⟨mu,ms,wg,DH⟩),by simp[mv,hm],λ _=>⟨_,_,_,qk rfl rfl (by k_ne) rfl jJ mF mD mG .i32 mE rfl rfl rfl hs.1.cellSt (hs.1.thaw 0) hm,hs,dZ.refl _,bu (by simp) (by simp) (by simp) (by simp) (by simpa [cH,mk] using book_one (Mu:=ph.Mu) (Wg:=ph.Wg) 0 (muA ph.Mu) aa (.inl rfl)),(by simp),?_⟩⟩
    refine⟨40,?_⟩
    walk_nrm
    repeat w_go KX.rely
    s_at KX.rely
    refine⟨by simp[we],λ _=>⟨rfl,rfl,λ s hs _=>⟨λ h=>?_,λ _=>?_⟩⟩⟩
    ·exfalso;revert h;simp only[mv];(repeat' split)<;>simp
    obtain⟨mu,ms,wg,DH⟩:=s
    by_cases hz:mu=0
    ·subst hz
     refine⟨(hd { pc:=.r3,old:=0,nw:=9,it:=it },⟨0,ms,wg,DH⟩),by simp[mv],λ hb=>⟨_,_,_,kI rfl rfl (by k_ne) rfl rfl hs.1.cellSt nG,hs,dZ.refl _,bu (by simp) (by simp) (by simp) (by simp) (by rw[if_neg (sT _ hb).1,(sT _ hb).2];simpa [cH] using jy (Mu:=ph.Mu) (Wg:=ph.Wg) 1),(by simp),?_⟩⟩
     obtain⟨mH,hH⟩:=ih k (by omega) { pc:=.r3,old:=0,nw:=9,it:=it } 0 hb (λ _=>rfl)
     refine⟨mH+40,?_⟩
     walk_nrm
     repeat w_nl KX.rely
     u_c kO KX.rely hF
     exact kD (hH _ _ _ _ _ _ _ _ _ _ _ _ _ _ _ _ _ _ _ _ _ _ _ _ _ _ _ _ _ _ _ _ _ _ _ _ _ _ _ _ _ _ _ _ _ _ _ _ _ _ _ _ _ _ _ _ _ _ _ _ _ _ _ _ _ _ _ _ _ _ _ _ _ _ _ _ _ _ _ _ _ _ _ _ _ _ _ _ _ _ _ _ _ _ _ _ _ _ _ _ _ _ _ _ _ _ _ _ _ _ _ _ _ _ _ _ _ _ _ _ _ _ _ _ _ _ _ _ _ _ _ _ _ _ hF) _
    ·exact⟨(at_ .bad,⟨mu,ms,wg,DH⟩),by simp[mv,hz],λ h=>absurd rfl h⟩
  ·refine⟨({ pc:=.r1,old:=1,nw:=0,it:=it },s),by simp[mv,h4],λ _=>⟨_,_,_,stepG_canSpin_ask rfl rfl (by k_ne) rfl Tryz.func229 Bw Bu Bx Bv (k:=.i64) (n:=it) (by simp[bX]) h4,hs.asked,dZ.asked _,bu (by simp) (by simp) (by simp) (by simp) (by simpa [cH,mk] using jy (Mu:=ph.Mu) (Wg:=ph.Wg) 1),(by simp),?_⟩⟩
   replace hF:=hF.Uw (dZ.asked zmF) hs.asked
   rw[hsp]
   refine⟨80,?_⟩
   walk_nrm
   repeat w_go KX.rely
   u_in KX.rely hF
   rw[stepG_entry_pure (.tuple #[]) rfl rfl (by k_ne) rfl Tryz.func230 zcm zck zcn zcl]
   simp only[goes_go]
   refine⟨by u_nil,?_⟩
   walk_nrm
   repeat w_go KX.rely
   s_at KX.rely
   refine⟨by simp[we],λ _=>⟨rfl,rfl,λ s hs _=>⟨by simp[mv],λ _=>⟨(hd { pc:=.r1,old:=s.mu,nw:=0,it:=aL.wrap (it+1) },s),by simp[mv],λ hb=>⟨_,_,_,kI rfl rfl (by k_ne) rfl rfl hs.1.cellSt nG,hs,dZ.refl _,bu (by simp) (by simp) (by simp) (by simp) (by rw[if_neg (sT _ hb).1,(sT _ hb).2];simpa [cH] using jy (Mu:=ph.Mu) (Wg:=ph.Wg) 1),(by simp),?_⟩⟩⟩⟩⟩
   obtain⟨mH,hH⟩:=ih k (by omega) { pc:=.r1,old:=s.mu,nw:=0,it:=aL.wrap (it+1) } 0 hb (λ _=>rfl)
   refine⟨mH+40,?_⟩
   walk_nrm
   repeat w_nl KX.rely
   u_c kO KX.rely hF
   exact kD (hH _ _ _ _ _ _ _ _ _ _ _ _ _ _ _ _ _ _ _ _ _ _ _ _ _ _ _ _ _ _ _ _ _ _ _ _ _ _ _ _ _ _ _ _ _ _ _ _ _ _ _ _ _ _ _ _ _ _ _ _ _ _ _ _ _ _ _ _ _ _ _ _ _ _ _ _ _ _ _ _ _ _ _ _ _ _ _ _ _ _ _ _ _ _ _ _ _ _ _ _ _ _ _ _ _ _ _ _ _ _ _ _ _ _ _ _ _ _ _ _ _ _ _ _ _ _ _ _ _ _ _ _ _ _ hF) _
 ·refine⟨({ pc:=.c2,old:=1,nw:=9,it:=it },s),by simp[mv],λ _=>⟨_,_,_,stepG_canSpin_no rfl rfl (by k_ne) rfl Tryz.func229 Bw Bu Bx Bv (k:=.i64) (n:=it) (by simp[bX]) (by omega),hs,dZ.refl _,bu (by simp) (by simp) (by simp) (by simp) (by simpa [cH,mk] using jy (Mu:=ph.Mu) (Wg:=ph.Wg) 1),(by simp),?_⟩⟩
  refine⟨140,?_⟩
  walk_nrm
  repeat w_go KX.rely
  m_num
  s_at KX.rely
  refine⟨by simp[we],λ _=>⟨rfl,rfl,λ s hs _=>⟨λ h=>?_,λ _=>?_⟩⟩⟩
  ·exfalso;revert h;simp only[mv];(repeat' split)<;>simp
  obtain⟨mu,ms,wg,DH⟩:=s
  by_cases hm:mu=1
  ·subst hm
   refine⟨({ pc:=.t1,old:=1,nw:=9,it:=it },⟨9,ms,wg,DH⟩),by simp[mv],λ _=>⟨_,_,_,jO rfl rfl (by k_ne) rfl jJ mF mD mG .i32 mE rfl rfl rfl hs.1.cellSt (hs.1.thaw 0),hs.setMu 9,dZ.set _ _ (.inl rfl),bu (by simp) (by simp) (by simp) (by simp) (by simpa [cH,mk] using book_rw (Mu:=ph.Mu) (Wg:=ph.Wg) 0 (muA ph.Mu) (.inl rfl)),(by simp),?_⟩⟩
   replace hF:=hF.Uw (dZ.set (muA ph.Mu) (.int .i32 9) (.inl rfl)) (hs.setMu 9)
   refine⟨60,?_⟩
   walk_nrm
   repeat w_go KX.rely
   refine bn (λ aJ bA=>?_)
   replace hF:=KX.rely hF bA
   clear bA
   rcases k with _|k
   ·trivial
   refine⟨by simp[we],λ _=>⟨rfl,rfl,λ s hs _=>⟨by simp[mv],λ _=>⟨({ pc:=.s1,old:=1,nw:=9,it:=it },s),by simp[mv],λ _=>⟨_,_,_,nM rfl rfl (by k_ne) rfl p9 xz xx xB xy xA,hs.later,dZ.later _,bu (by simp) (by simp) (by simp) (by simp) (by simpa [cH,mk] using jy (Mu:=ph.Mu) (Wg:=ph.Wg) 1),(by simp),?_⟩⟩⟩⟩⟩
   replace hF:=hF.Uw (dZ.later aJ) hs.later
   generalize ((aJ.os.mono+aJ.tick:Nat):Int)=tv
   refine⟨60,?_⟩
   walk_nrm
   repeat w_go KX.rely
   s_at KX.rely
   refine⟨by simp[we],λ _=>⟨rfl,rfl,λ s hs _=>⟨λ h=>?_,λ fh=>?_⟩⟩⟩
   ·have h0:s.ms=0:=by
     by_cases hc:s.ms=0
     ·exact hc
     ·simp[mv,hc] at h
    exact mR rfl rfl rfl zo C2 CZ C3 C1 (by simp[bX,msA]) (h0▸hs.1.cellSm)
   have h1:s.ms≠0:=λ hc=>fh (by simp[mv,hc])
   refine⟨({ pc:=.t2,old:=1,nw:=9,it:=it },{ s with ms:=s.ms-1 }),by simp[mv,h1],λ _=>⟨_,_,_,q8 rfl rfl (by k_ne) rfl zo C2 CZ C3 C1 (by simp[bX,msA]) hs.1.cellSm h1 (hs.1.thaw 1),hs.setMs _,dZ.set _ _ (.inl rfl),bu (by simp) (by simp) (by simp) (by simp) (by simpa [cH,mk] using book_sem (Mu:=ph.Mu) (Wg:=ph.Wg) 0 (msA ph.Mu) (.inl rfl)),(by simp),?_⟩⟩
   replace hF:=hF.Uw (dZ.set (msA ph.Mu) (.int .u32 (s.ms-1)) (.inl rfl)) (hs.setMs (s.ms-1))
   refine⟨60,?_⟩
   walk_nrm
   repeat w_go KX.rely
   refine bn (λ ed er=>?_)
   replace hF:=KX.rely hF er
   clear er
   rcases k with _|k
   ·trivial
   refine⟨by simp[we],λ _=>⟨rfl,rfl,λ s hs _=>⟨by simp[mv],λ _=>?_⟩⟩⟩
   rcases hB:decide (1000000<aL.wrap (((ed.os.mono+ed.tick:Nat):Int)-tv)) with _|_
   ·refine⟨({ pc:=.r2,old:=1,nw:=9,it:=it,sv:=aa },s),by simp[mv],λ _=>⟨_,_,_,nM rfl rfl (by k_ne) rfl p9 xz xx xB xy xA,hs.later,dZ.later _,bu (by simp) (by simp) (by simp) (by simp) (by simpa [cH,mk] using jy (Mu:=ph.Mu) (Wg:=ph.Wg) 1),(by simp),?_⟩⟩
    replace hF:=hF.Uw (dZ.later ed) hs.later
    generalize ((ed.os.mono+ed.tick:Nat):Int)=tw at hB ⊢
    refine⟨60,?_⟩
    walk_nrm
    repeat w_go KX.rely
    try simp only[hB]
    s_at KX.rely
    refine⟨by simp[we],λ _=>⟨rfl,rfl,λ s hs _=>⟨λ h=>?_,λ _=>?_⟩⟩⟩
    ·exfalso;revert h;simp only[mv];(repeat' split)<;>simp
    obtain⟨mu,ms,wg,DH⟩:=s
    by_cases hm:mu=2
    ·subst hm
     refine⟨(hd { pc:=.r2,old:=2,nw:=9,aw:=ae,sv:=aa,it:=0 },⟨2,ms,wg,DH⟩),by simp[mv],λ hb=>⟨_,_,_,kI rfl rfl (by k_ne) rfl rfl hs.1.cellSt nG,hs,dZ.refl _,bu (by simp) (by simp) (by simp) (by simp) (by rw[if_neg (sT _ hb).1,(sT _ hb).2];simpa [cH] using jy (Mu:=ph.Mu) (Wg:=ph.Wg) 1),(by simp),?_⟩⟩
     obtain⟨mH,hH⟩:=ih k (by omega) { pc:=.r2,old:=2,nw:=9,aw:=ae,sv:=aa,it:=0 } tv hb (λ h=>by simp at h)
     refine⟨mH+40,?_⟩
     walk_nrm
     repeat w_nl KX.rely
     u_c kO KX.rely hF
     exact kD (hH _ _ _ _ _ _ _ _ _ _ _ _ _ _ _ _ _ _ _ _ _ _ _ _ _ _ _ _ _ _ _ _ _ _ _ _ _ _ _ _ _ _ _ _ _ _ _ _ _ _ _ _ _ _ _ _ _ _ _ _ _ _ _ _ _ _ _ _ _ _ _ _ _ _ _ _ _ _ _ _ _ _ _ _ _ _ _ _ _ _ _ _ _ _ _ _ _ _ _ _ _ _ _ _ _ _ _ _ _ _ _ _ _ _ _ _ _ _ _ _ _ _ _ _ _ _ _ _ _ _ _ _ _ _ hF) _
    ·exact⟨(at_ .bad,⟨mu,ms,wg,DH⟩),by simp[mv,hm],λ h=>absurd rfl h⟩
   ·refine⟨({ pc:=.r2,old:=1,nw:=9,it:=it,sv:=ae },s),by simp[mv],λ _=>⟨_,_,_,nM rfl rfl (by k_ne) rfl p9 xz xx xB xy xA,hs.later,dZ.later _,bu (by simp) (by simp) (by simp) (by simp) (by simpa [cH,mk] using jy (Mu:=ph.Mu) (Wg:=ph.Wg) 1),(by simp),?_⟩⟩
    replace hF:=hF.Uw (dZ.later ed) hs.later
    generalize ((ed.os.mono+ed.tick:Nat):Int)=tw at hB ⊢
    refine⟨60,?_⟩
    walk_nrm
    repeat w_go KX.rely
    try simp only[hB]
    s_at KX.rely
    refine⟨by simp[we],λ _=>⟨rfl,rfl,λ s hs _=>⟨λ h=>?_,λ _=>?_⟩⟩⟩
    ·exfalso;revert h;simp only[mv];(repeat' split)<;>simp
    obtain⟨mu,ms,wg,DH⟩:=s
    by_cases hm:mu=2
    ·subst hm
     refine⟨(hd { pc:=.r2,old:=2,nw:=9,aw:=ae,sv:=ae,it:=0 },⟨2,ms,wg,DH⟩),by simp[mv],λ hb=>⟨_,_,_,kI rfl rfl (by k_ne) rfl rfl hs.1.cellSt nG,hs,dZ.refl _,bu (by simp) (by simp) (by simp) (by simp) (by rw[if_neg (sT _ hb).1,(sT _ hb).2];simpa [cH] using jy (Mu:=ph.Mu) (Wg:=ph.Wg) 1),(by simp),?_⟩⟩
     obtain⟨mH,hH⟩:=ih k (by omega) { pc:=.r2,old:=2,nw:=9,aw:=ae,sv:=ae,it:=0 } tv hb (λ h=>by simp at h)
     refine⟨mH+40,?_⟩
     walk_nrm
     repeat w_nl KX.rely
     u_c kO KX.rely hF
     exact kD (hH _ _ _ _ _ _ _ _ _ _ _ _ _ _ _ _ _ _ _ _ _ _ _ _ _ _ _ _ _ _ _ _ _ _ _ _ _ _ _ _ _ _ _ _ _ _ _ _ _ _ _ _ _ _ _ _ _ _ _ _ _ _ _ _ _ _ _ _ _ _ _ _ _ _ _ _ _ _ _ _ _ _ _ _ _ _ _ _ _ _ _ _ _ _ _ _ _ _ _ _ _ _ _ _ _ _ _ _ _ _ _ _ _ _ _ _ _ _ _ _ _ _ _ _ _ _ _ _ _ _ _ _ _ _ hF) _
    ·exact⟨(at_ .bad,⟨mu,ms,wg,DH⟩),by simp[mv,hm],λ h=>absurd rfl h⟩
  ·
   refine⟨({ pc:=.r3,old:=1,nw:=9,it:=it },⟨mu,ms,wg,DH⟩),by simp[mv,hm],λ _=>⟨_,_,_,qk rfl rfl (by k_ne) rfl jJ mF mD mG .i32 mE rfl rfl rfl hs.1.cellSt (hs.1.thaw 0) hm,hs,dZ.refl _,bu (by simp) (by simp) (by simp) (by simp) (by simpa [cH,mk] using book_one (Mu:=ph.Mu) (Wg:=ph.Wg) 0 (muA ph.Mu) aa (.inl rfl)),(by simp),?_⟩⟩
   refine⟨40,?_⟩
   walk_nrm
   repeat w_go KX.rely
   s_at KX.rely
   refine⟨by simp[we],λ _=>⟨rfl,rfl,λ s hs _=>⟨λ h=>?_,λ _=>?_⟩⟩⟩
   ·exfalso;revert h;simp only[mv];(repeat' split)<;>simp
   obtain⟨mu,ms,wg,DH⟩:=s
   by_cases hz:mu=0
   ·subst hz
    refine⟨(hd { pc:=.r3,old:=0,nw:=9,it:=it },⟨0,ms,wg,DH⟩),by simp[mv],λ hb=>⟨_,_,_,kI rfl rfl (by k_ne) rfl rfl hs.1.cellSt nG,hs,dZ.refl _,bu (by simp) (by simp) (by simp) (by simp) (by rw[if_neg (sT _ hb).1,(sT _ hb).2];simpa [cH] using jy (Mu:=ph.Mu) (Wg:=ph.Wg) 1),(by simp),?_⟩⟩
    obtain⟨mH,hH⟩:=ih k (by omega) { pc:=.r3,old:=0,nw:=9,it:=it } 0 hb (λ _=>rfl)
    refine⟨mH+40,?_⟩
    walk_nrm
    repeat w_nl KX.rely
    u_c kO KX.rely hF
    exact kD (hH _ _ _ _ _ _ _ _ _ _ _ _ _ _ _ _ _ _ _ _ _ _ _ _ _ _ _ _ _ _ _ _ _ _ _ _ _ _ _ _ _ _ _ _ _ _ _ _ _ _ _ _ _ _ _ _ _ _ _ _ _ _ _ _ _ _ _ _ _ _ _ _ _ _ _ _ _ _ _ _ _ _ _ _ _ _ _ _ _ _ _ _ _ _ _ _ _ _ _ _ _ _ _ _ _ _ _ _ _ _ _ _ _ _ _ _ _ _ _ _ _ _ _ _ _ _ _ _ _ _ _ _ _ _ hF) _
   ·exact⟨(at_ .bad,⟨mu,ms,wg,DH⟩),by simp[mv,hz],λ h=>absurd rfl h⟩
end
end Rn
end Go.Proofs.YtdpfknhenjngcaaGreatDoor
