/-
  The company of the starter and its workers (part 5). No condition.
-/
import Derived.Test.YtelohkknmgaacaaGreatDoorZ3
set_option linter.unusedSimpArgs false
set_option linter.unusedVariables false
set_option linter.unusedSectionVars false
set_option linter.defProp false
set_option maxRecDepth 100000
set_option maxHeartbeats 16000000
open Go.Conc renaming stepG_cas_hit→ir
open Go.ConcM renaming evStop_book→bf
open Go.ConcM.Th renaming deaf→cp
open Option renaming getD_some→db
open Bool renaming true→E,false→H
open Option renaming some→C,none→U
namespace Go.Proofs.YtelohkknmgaacaaGreatDoor
open Tryz
namespace Rn
open Go Go.Conc Go.ConcN Go.ConcM Go.RowKit Go.Conc.Lib Go.ConcR.Gen
open Go.ConcR(mk)
section
variable{ph:Ph}{s:Nat}{St:Nat->Prop}{w0:World}{gj:Bool}{Fi:Nat->Goroutine->World->Prop}
variable{Ee:Frame}{Ed:Act}{kq:Array Oper}{Eg:Nat}{kt:List Nat}{k₁:List Item}{pB:List Frame}
def zvu(hT:∀k',∃m,∀w,KX ph s St w0 w->GX ph s St gj E Fi (at_ .ur) k' m (G (Ee.at (Ed.put ((kq[Eg]?).bind (·.dst)) (.tuple #[])) (.inRegion kq kt::k₁)) pB) w)(k:Nat)(pc:Pc)(nw it:Int)(sv ws:Bool)(wst:Int):An ph s St w0 gj Fi Ee Ed kq Eg kt k₁ pB k {pc:=pc,old:=2,nw:=nw,aw:=E,sv:=sv,it:=it,ws:=ws} wst:=by
 have e:hd {pc:=pc,old:=2,nw:=nw,aw:=E,sv:=sv,it:=it,ws:=ws}={pc:=.c2,old:=2,nw:=1,aw:=E,sv:=sv,it:=it,ws:=ws}:=by simp[hd]
 unfold An;rw[e];cases sv
 .refine⟨140,λj1 j7 j8 j9 j10 j11 j12 j13 j14 j15 j16 j17 j18 j19 j20 j21 j22 j23 j24 j25 j26 j27 j28 j29 j30 j31 j32 j33 j34 j35 j36 j37 j38 j39 j40 j41 j42 j43 j44 j45 j46 j47 j48 j49 j50 j51 j52 j53 j54 j55 j56 j57 j58 j59 j60 j61 j62 j63 j64 j65 j66 j67 j68 j69 j70 j71 j72 j73 j74 j75 j76 j77 j78 j79 j80 j81 j82 j83 j84 j85 j86 j87 j88 j89 j90 j91 j92 j93 j94 j95 j96 j97 j98 j99 j c d f g i l n o p q r t u v x y z A B Q0 D Q1 F Q2 I J K L M N O P Q R Q3 Q4 W X w hF=>?_⟩;simp only[LLS,O6,Ao,qU,n8,f204,db];repeat w_go KX.rely
  m_num;s_at KX.rely;refine⟨by simp[vF],λ_=>⟨rfl,rfl,λs hs _=>⟨λh=>?_,λ_=>?_⟩⟩⟩;.exfalso;revert h;simp only[mv];(repeat' split)<;>simp
  obtain⟨mu,ms,wg,a⟩:=s;by_cases Z:mu=2
  .subst Z;refine⟨(at_ .le,⟨1,ms,wg,a⟩),by simp[mv],λ_=>⟨_,_,_,ir rfl rfl Y4 rfl func203 kT kR kU .i32 kS rfl rfl rfl hs.1.cellSt (hs.1.thaw 0),hs.pG 1,dG.set _ _ (.inl rfl),bf Y1 Y1 Y1 Y1 (by simpa[cp,mk]using book_rw (Mu:=ph.Mu) (Wg:=ph.Wg) 0 (muA ph.Mu) (.inl rfl)),Y1,?_⟩⟩;replace hF:=hF.Mx (dG.set (muA ph.Mu) (.int .i32 1) (.inl rfl)) (hs.pG 1);refine⟨60,?_⟩;walk_nrm;repeat w_go KX.rely
   s_at KX.rely;refine⟨by simp[vF],λ_=>⟨rfl,rfl,λs hs _=>⟨by simp[mv],λ_=>⟨(at_ .la,s),by simp[mv],λ_=>⟨_,_,_,stepG_mark0 .enable Y1 rfl rfl Y4 rfl ck.f_enable (x_enable_n az) (x_enable_b az) (x_enable_x az) (x_enable_f az),hs,dG.refl _,bf Y1 Y1 Y1 Y1 (by simpa[cp,mk]using book_en (Mu:=ph.Mu) (Wg:=ph.Wg) 0),Y1,?_⟩⟩⟩⟩⟩;refine⟨30,?_⟩;walk_nrm;repeat w_go KX.rely
   m_convG prog ck.underlying_tUP Zs zhW hF.mu.choose_spec KX.rely hF;s_at KX.rely;refine⟨by simp[vF],λ_=>⟨rfl,rfl,λs hs _=>⟨by simp[mv],λ_=>⟨(at_ .ur,s),by simp[mv],λ_=>⟨_,_,_,stepG_markAt .acquire Y1 rfl rfl Y4 rfl ck.f_acquire (x_acquire_n az) (x_acquire_b az) (x_acquire_x az) (x_acquire_f az) (by simp[Act.eval,muA]),hs,dG.refl _,rfl,Y1,?_⟩⟩⟩⟩⟩;obtain⟨mT,b⟩:=hT k;refine⟨mT+20,?_⟩;walk_nrm;repeat w_go KX.rely
   u_leave0 func204 KX.rely hF;repeat w_go KX.rely
   exact goes_pad (b _ hF) _
  .exact⟨(at_ .bad,⟨mu,ms,wg,a⟩),by simp[mv,Z],λh=>absurd rfl h⟩
 .refine⟨140,λj1 j7 j8 j9 j10 j11 j12 j13 j14 j15 j16 j17 j18 j19 j20 j21 j22 j23 j24 j25 j26 j27 j28 j29 j30 j31 j32 j33 j34 j35 j36 j37 j38 j39 j40 j41 j42 j43 j44 j45 j46 j47 j48 j49 j50 j51 j52 j53 j54 j55 j56 j57 j58 j59 j60 j61 j62 j63 j64 j65 j66 j67 j68 j69 j70 j71 j72 j73 j74 j75 j76 j77 j78 j79 j80 j81 j82 j83 j84 j85 j86 j87 j88 j89 j90 j91 j92 j93 j94 j95 j96 j97 j98 j99 j c d f g i l n o p q r t u v x y z A B Q0 D Q1 F Q2 I J K L M N O P Q R Q3 Q4 W X w hF=>?_⟩;simp only[LLS,O6,Ao,qU,n8,f204,db];repeat w_go KX.rely
  m_num;s_at KX.rely;refine⟨by simp[vF],λ_=>⟨rfl,rfl,λs hs _=>⟨λh=>?_,λ_=>?_⟩⟩⟩;.exfalso;revert h;simp only[mv];(repeat' split)<;>simp
  obtain⟨mu,ms,wg,a⟩:=s;by_cases Z:mu=2
  .subst Z;refine⟨(at_ .le,⟨1,ms,wg,a⟩),by simp[mv],λ_=>⟨_,_,_,ir rfl rfl Y4 rfl func203 kT kR kU .i32 kS rfl rfl rfl hs.1.cellSt (hs.1.thaw 0),hs.pG 1,dG.set _ _ (.inl rfl),bf Y1 Y1 Y1 Y1 (by simpa[cp,mk]using book_rw (Mu:=ph.Mu) (Wg:=ph.Wg) 0 (muA ph.Mu) (.inl rfl)),Y1,?_⟩⟩;replace hF:=hF.Mx (dG.set (muA ph.Mu) (.int .i32 1) (.inl rfl)) (hs.pG 1);refine⟨60,?_⟩;walk_nrm;repeat w_go KX.rely
   s_at KX.rely;refine⟨by simp[vF],λ_=>⟨rfl,rfl,λs hs _=>⟨by simp[mv],λ_=>⟨(at_ .la,s),by simp[mv],λ_=>⟨_,_,_,stepG_mark0 .enable Y1 rfl rfl Y4 rfl ck.f_enable (x_enable_n az) (x_enable_b az) (x_enable_x az) (x_enable_f az),hs,dG.refl _,bf Y1 Y1 Y1 Y1 (by simpa[cp,mk]using book_en (Mu:=ph.Mu) (Wg:=ph.Wg) 0),Y1,?_⟩⟩⟩⟩⟩;refine⟨30,?_⟩;walk_nrm;repeat w_go KX.rely
   m_convG prog ck.underlying_tUP Zs zhW hF.mu.choose_spec KX.rely hF;s_at KX.rely;refine⟨by simp[vF],λ_=>⟨rfl,rfl,λs hs _=>⟨by simp[mv],λ_=>⟨(at_ .ur,s),by simp[mv],λ_=>⟨_,_,_,stepG_markAt .acquire Y1 rfl rfl Y4 rfl ck.f_acquire (x_acquire_n az) (x_acquire_b az) (x_acquire_x az) (x_acquire_f az) (by simp[Act.eval,muA]),hs,dG.refl _,rfl,Y1,?_⟩⟩⟩⟩⟩;obtain⟨mT,b⟩:=hT k;refine⟨mT+20,?_⟩;walk_nrm;repeat w_go KX.rely
   u_leave0 func204 KX.rely hF;repeat w_go KX.rely
   exact goes_pad (b _ hF) _
  .exact⟨(at_ .bad,⟨mu,ms,wg,a⟩),by simp[mv,Z],λh=>absurd rfl h⟩
end
end Rn
end Go.Proofs.YtelohkknmgaacaaGreatDoor
