/-
  The company of the starter and its workers (part 7). No condition.
-/
import Derived.Test.YtdpfknhenjngcaaGreatDoorZ5
import Derived.Test.YtdpfknhenjngcaaGreatDoorZ6
import Derived.Test.YtdpfknhenjngcaaGreatDoorZ4
import Derived.Conc.Own5
import Derived.Conc.Events
import Derived.Deep.MidRow
import Derived.Conc.CrowdStepC
import Derived.Conc.MuIn
import Derived.Conc.MuFacts
set_option linter.unusedSimpArgs false
set_option linter.unusedVariables false
set_option linter.unusedSectionVars false
set_option maxRecDepth 100000
set_option maxHeartbeats 16000000
open Array renaming getElem?_eq_getElem→bj,ext'→fj,toList_append→dw,toList_extract→cD,mem_append→qT,getElem?_modify→du,all_eq_true_iff_forall_mem→aT,getElem?_push→bJ,size_push→sG,size_append→vS,getElem?_eq_some_iff→ah,mem_iff_getElem?→dX,foldl_toList→j0,toList_zipIdx→jB,eq_empty_iff_forall_not_mem→pO,getElem?_setIfInBounds_ne→bt
open Bool renaming false_eq_true→ca
open Classical renaming choose→dk,choose_spec→ep
open Go renaming World→ai,Frame→aB,Event→bT,Value→aj,Addr→cr,TypeId→au,loadCellsFrom→jM,TypeDesc→ia,TypeInfo→lx,loadVar→et,storeCells→l4,storeVar→rW,execOp→bd,stepG→bU,Operand→bp,zeroValue→ee,Frame.enter→aU,Deferred→eH,Frame.at→oC,doReturn→Hc,Program→aG,Conc.Goes.stop→bn,Goroutine→aI,deafBehind→cG,Trace→pk,MemAct→jX
open Go.Act renaming eval→bX
open Go.Conc renaming stepG_mark0→gk,stepG_cas_hit→jO,stepG_markAt→ic,stepG_cas_miss→qk,goes_go→rz,stepG_add_atomic→iH,seen_none→xI,QuitsD→nm,stepG_load_atomic→kQ,stepG_semacquire_wait→mR,stepG_semacquire→q8,Deaf_other→nC,again_running→wM,getElem?_append_cases→dI,runT_crowd_go→jN
open Go.Conc.Goes renaming step→CL
open Go.ConcM renaming evStop_book→bu,goes_pad→kD,book_rw→s7,OsLater→pS
open Go.ConcM.Th renaming deaf→cH
open Go.ConcR.Gen renaming x_disable_n→vP,x_disable_b→vN,x_disable_x→vQ,x_disable_f→vO,x_enable_n→kZ,x_enable_b→kX,x_enable_x→k8,x_enable_f→kY,x_acquire_n→pG,x_acquire_b→pE,x_acquire_x→pH,x_acquire_f→pF,x_loadU64_n→sj,x_loadU64_b→se,x_loadU64_x→sk,x_loadU64_f→sg,x_semacquire_n→uI,x_semacquire_b→uG,x_semacquire_x→uJ,x_semacquire_f→uH
open Go.Deferred renaming ofValue→iC
open Go.Event renaming mute→Fa
open Go.GStep renaming after→dE
open Go.Instr renaming loadAt→eY,sureAddr→bZ,storeAt→lf,indexAt→iP,fill→eJ,build→iV,index→kG
open Go.IntKind renaming i64→aL,u64→py
open Go.MemAct renaming ofEvent→aP,touch?→cB
open Go.MemOp renaming ofEvents→cW
open Go.Proofs.Tryz renaming f189→qJ,func188→jJ,prog→an,func66→kH,func115→kL,func117→iN,func71→rZ,func125→nS
open Go.Region renaming wanted→aR
open Go.Value renaming agg→tr
open List renaming append_assoc→dN,extract_eq_take_drop→bI,take_of_length_le→bq,length_cons→bP,drop_zero→fL,drop_set_of_lt→Da,take_add_one→dO,getElem?_set_self→qp,take_set_of_le→Dc,take_zero→nL,nil_append→ju,drop_left'→zU,take_left'→oQ,size_toArray→jg,drop_eq_nil_of_le→eZ,append_nil→eO
open Nat renaming sub_zero→jH,le_refl→aA,le_of_eq→dh,zero_mul→Hw,zero_add→fQ,one_mul→pA,mul_le_mul_right→br,lt_or_ge→l5,le_trans→bD,lt_of_lt_of_le→aY,add_mul→gj
open Option renaming getD_some→cS,map_eq_some_iff→aN,bind_eq_some_iff→cP
open Option.some renaming injEq→aF
open Prod.mk renaming injEq→bz
open Pure renaming pure→bN
open Bool renaming true→ae,false→aa
open Option renaming some→ab,none→ak
namespace Go.Proofs.YtdpfknhenjngcaaGreatDoor
namespace Rn
open Go Go.Conc Go.ConcN Go.ConcM Go.RowKit Go.Conc.Lib Go.ConcR.Gen
open Go.ConcR (KK WgAt stA smA rd wr mk DC0)
section
variable{ph:Ph}{s:Nat}{St:Nat->Prop}{w0:ai}{fX:Bool}{Fi:Nat->aI->ai->Prop}
variable{EV:aB}{wj:Act}{lV:Array Oper}{E0:Nat}{lY:List Nat}{k₁:List Item}{qy:List aB}
theorem zrL(hT:∀k',∃m,∀w,KX ph s St w0 w->GX ph s St fX ae Fi (at_ .ur) k' m (G (EV.at (wj.put ((lV[E0]?).bind (·.dst)) (.tuple #[])) (.inRegion lV lY::k₁)) qy) w):∀(k:Nat) (T:Th) (wst:Int),(hd T).pc≠.bad->(T.old=1->wst=0)->AX ph s St w0 fX Fi EV wj lV E0 lY k₁ qy k T wst:=by
 intro k
 induction k using Nat.strongRecOn with
 |_ k ih=>
 intro T wst hb O3
 obtain⟨pc,old,nw,aw,sv,it,ws⟩:=T
 rcases Zj _ hb with⟨h0,ha,hs,_⟩|⟨h1,ha,hs,hw,_⟩|⟨h2,ha,_⟩
 ·simp only at h0 ha hs
  subst h0 ha hs
  exact zv2 hT k pc nw it ws wst
 ·simp only at h1 ha hs hw
  subst h1 ha hs hw
  obtain rfl:=O3 rfl
  exact zzD k ih pc nw it
 ·simp only at h2 ha
  subst h2 ha
  exact zv3 hT k pc nw it sv ws wst
theorem zsc(hT:∀k',∃m,∀w,KX ph s St w0 w->GX ph s St fX ae Fi (at_ .ur) k' m (G (EV.at (wj.put ((lV[E0]?).bind (·.dst)) (.tuple #[])) (.inRegion lV lY::k₁)) qy) w)(k:Nat)(w:ai)(hF:KX ph s St w0 w):
  GX ph s St fX ae Fi (at_ .r0) k 60 (G ((Go.Conc.base 189).at ⟨#[.pointer (ab ⟨ph.Mu,0,ak⟩),undef,undef,undef,undef,undef,undef,undef,undef,undef,undef,undef,undef,undef,undef,undef,undef,undef,undef,undef,undef,undef,undef,undef,undef,undef,undef,undef,undef,undef,undef,undef,undef,undef,undef,undef,undef,undef,undef,undef,undef,undef,undef,undef,undef,undef,undef,undef,undef,undef,undef,undef,undef,undef,undef,undef,undef,undef,undef,undef,undef,undef,undef,undef,undef,undef,undef,undef,undef,undef,undef,undef,undef,undef,undef,undef,undef,undef,undef,undef,undef,undef,undef,undef,undef,undef,undef,undef,undef,undef,undef,undef,undef,undef,undef,undef,undef,undef,undef,undef,undef,undef,undef,undef,undef,undef,undef,undef,undef,undef,undef,undef,undef,undef,undef,undef,undef,undef,undef,undef,undef,undef,undef,undef,undef,undef,undef,undef,undef,undef,undef,undef,undef,undef,undef,undef,undef,undef,undef],[]⟩ [.code AY]) (EV.at wj (.inRegion lV (E0::lY)::k₁)::qy)) w:=by
 simp only[AY,qJ,cS]
 repeat w_go KX.rely
 s_at KX.rely
 refine⟨by simp[we],λ _=>⟨rfl,rfl,λ s hs _=>⟨by simp[mv],λ _=>⟨(hd { pc:=.r0,old:=s.mu },s),by simp[mv],λ hb=>⟨_,_,_,kI rfl rfl (by k_ne) rfl rfl hs.1.cellSt nG,hs,dZ.refl _,bu (by simp) (by simp) (by simp) (by simp) (by rw[if_neg (sT _ hb).1,(sT _ hb).2];simpa [cH] using book_nil (Mu:=ph.Mu) (Wg:=ph.Wg) 1),(by simp),?_⟩⟩⟩⟩⟩
 obtain⟨mH,hH⟩:=zrL hT k { pc:=.r0,old:=s.mu } 0 hb (λ _=>rfl)
 refine⟨mH+20,?_⟩
 walk_nrm
 repeat w_but "code.loop" KX.rely
 u_c stepG_loop KX.rely hF
 exact kD (hH _ _ _ _ _ _ _ _ _ _ _ _ _ _ _ _ _ _ _ _ _ _ _ _ _ _ _ _ _ _ _ _ _ _ _ _ _ _ _ _ _ _ _ _ _ _ _ _ _ _ _ _ _ _ _ _ _ _ _ _ _ _ _ _ _ _ _ _ _ _ _ _ _ _ _ _ _ _ _ _ _ _ _ _ _ _ _ _ _ _ _ _ _ _ _ _ _ _ _ _ _ _ _ _ _ _ _ _ _ _ _ _ _ _ _ _ _ _ _ _ _ _ _ _ _ _ _ _ _ _ _ _ _ _ hF) _
end
section
variable{ph:Ph}{s:Nat}{St:Nat->Prop}{w0:ai}{fX:Bool}{Fi:Nat->aI->ai->Prop}
variable{vh:aB}{nN:Act}{jk:Array Oper}{C7:Nat}{mZ:List Nat}{Gv:List Item}{cs:List aB}
theorem zrS(hT:∀k',∃m,∀w,KX ph s St w0 w->GX ph s St fX ae Fi (at_ .ur) k' m (G (vh.at (nN.put ((jk[C7]?).bind (·.dst)) (.tuple #[])) (.inRegion jk mZ::Gv)) cs) w):
  ∀k w,KX ph s St w0 w->GX ph s St fX ae Fi (at_ .ld) k 40 (G ((Go.Conc.base 69).at ⟨#[.pointer (ab ⟨ph.Mu,0,ak⟩),undef,undef,undef,undef,undef],[]⟩ [.code zhH]) (vh.at nN (.inRegion jk (C7::mZ)::Gv)::cs)) w:=by
 intro k w hF
 simp only[zhH,Tryz.f69,cS]
 repeat w_go KX.rely
 u_call Tryz.func121 ziZ Tryz.f121 KX.rely hF
 repeat w_go KX.rely
 s_at KX.rely
 refine⟨by simp[we],λ _=>⟨rfl,rfl,λ s hs _=>⟨by simp[mv],λ _=>⟨(at_ .l0,s),by simp[mv],λ _=>⟨_,_,_,gk .disable (by simp) rfl rfl (by k_ne) rfl cC.f_disable (vP aD) (vN aD) (vQ aD) (vO aD),hs,dZ.refl _,bu (by simp) (by simp) (by simp) (by simp) (by simpa [cH,mk] using book_dis (Mu:=ph.Mu) (Wg:=ph.Wg) 0),(by simp),?_⟩⟩⟩⟩⟩
 refine⟨30,?_⟩
 walk_nrm
 repeat w_go KX.rely
 s_at KX.rely
 refine⟨by simp[we],λ _=>⟨rfl,rfl,λ s hs _=>⟨λ h=>?_,λ _=>?_⟩⟩⟩
 ·exfalso;revert h;simp only[mv];(repeat' split)<;>simp
 obtain⟨mu,ms,wg,ws⟩:=s
 by_cases h0:mu=0
 ·subst h0
  refine⟨(at_ .le,⟨1,ms,wg,ws⟩),by simp[mv],λ _=>⟨_,_,_,jO rfl rfl (by k_ne) rfl jJ mF mD mG .i32 mE rfl rfl rfl hs.1.cellSt (hs.1.thaw 0),hs.setMu 1,dZ.set _ _ (.inl rfl),bu (by simp) (by simp) (by simp) (by simp) (by simpa [cH,mk] using s7 (Mu:=ph.Mu) (Wg:=ph.Wg) 0 (muA ph.Mu) (.inl rfl)),(by simp),?_⟩⟩
  replace hF:=hF.Uw (dZ.set (muA ph.Mu) (.int .i32 1) (.inl rfl)) (hs.setMu 1)
  refine⟨30,?_⟩
  walk_nrm
  repeat w_go KX.rely
  s_at KX.rely
  refine⟨by simp[we],λ _=>⟨rfl,rfl,λ s hs _=>⟨by simp[mv],λ _=>⟨(at_ .la,s),by simp[mv],λ _=>⟨_,_,_,gk .enable (by simp) rfl rfl (by k_ne) rfl cC.f_enable (kZ aD) (kX aD) (k8 aD) (kY aD),hs,dZ.refl _,bu (by simp) (by simp) (by simp) (by simp) (by simpa [cH,mk] using book_en (Mu:=ph.Mu) (Wg:=ph.Wg) 0),(by simp),?_⟩⟩⟩⟩⟩
  refine⟨30,?_⟩
  walk_nrm
  repeat w_go KX.rely
  m_convG an cC.underlying_tUP YQ zgX hF.mu.choose_spec KX.rely hF
  s_at KX.rely
  refine⟨by simp[we],λ _=>⟨rfl,rfl,λ s hs _=>⟨by simp[mv],λ _=>⟨(at_ .ur,s),by simp[mv],λ _=>⟨_,_,_,ic .acquire (by simp) rfl rfl (by k_ne) rfl cC.f_acquire (pG aD) (pE aD) (pH aD) (pF aD) (by simp[bX,muA]),hs,dZ.refl _,rfl,(by simp),?_⟩⟩⟩⟩⟩
  obtain⟨mT,wh⟩:=hT k
  refine⟨mT+20,?_⟩
  walk_nrm
  repeat w_go KX.rely
  u_leave0 Tryz.func121 KX.rely hF
  repeat w_go KX.rely
  u_leave0 Tryz.func69 KX.rely hF
  repeat w_go KX.rely
  exact kD (wh _ hF) _
 ·
  refine⟨(at_ .r0,⟨mu,ms,wg,ws⟩),by simp[mv,h0],λ _=>⟨_,_,_,qk rfl rfl (by k_ne) rfl jJ mF mD mG .i32 mE rfl rfl rfl hs.1.cellSt (hs.1.thaw 0) h0,hs,dZ.refl _,bu (by simp) (by simp) (by simp) (by simp) (by simpa [cH,mk] using book_one (Mu:=ph.Mu) (Wg:=ph.Wg) 0 (muA ph.Mu) aa (.inl rfl)),(by simp),?_⟩⟩
  refine⟨80,?_⟩
  walk_nrm
  repeat w_go KX.rely
  u_call Tryz.func189 Z5 qJ KX.rely hF
  refine goes_le (by omega) (zsc ?_ k _ hF)
  intro k'
  obtain⟨mT,wh⟩:=hT k'
  refine⟨mT+20,λ w hF=>?_⟩
  walk_nrm
  repeat w_go KX.rely
  u_leave0 Tryz.func121 KX.rely hF
  repeat w_go KX.rely
  u_leave0 Tryz.func69 KX.rely hF
  exact kD (wh _ hF) _
end
section
variable{ph:Ph}{s:Nat}{St:Nat->Prop}{w0:ai}{fX:Bool}{Fi:Nat->aI->ai->Prop}
theorem zkn{c:aB}{cs:List aB}(hcm:c.mode=.returning)(hT:∀k',∃m,∀w,KX ph s St w0 w->GX ph s St fX aa Fi (at_ (if fX then .kd else .wr)) k' m (G c cs) w):
  ∀k w,KX ph s St w0 w->GX ph s St fX aa Fi (at_ .ur) k 40 (G ((baseD 70).at ⟨#[.pointer (ab ⟨ph.Mu,0,ak⟩),undef,undef,undef,undef,undef],[]⟩ [.code zhI]) (c::cs)) w:=by
 intro k w hF
 simp only[zhI,Tryz.f70,cS]
 repeat w_go KX.rely
 u_call Tryz.func122 zbM Tryz.f122 KX.rely hF
 repeat w_go KX.rely
 u_in KX.rely hF
 obtain⟨x0,hx0⟩:=hF.muI
 rw[kI rfl rfl (by k_ne) rfl rfl hx0 zeZ]
 simp only[rz]
 refine⟨by u_nil,?_⟩
 clear hx0
 walk_nrm
 repeat w_go KX.rely
 m_convG an cC.underlying_tUP YQ zgX hF.mu.choose_spec KX.rely hF
 s_at KX.rely
 refine⟨by simp[we],λ _=>⟨rfl,rfl,λ s hs _=>⟨by simp[mv],λ _=>⟨(at_ .ud,s),by simp[mv],λ _=>⟨_,_,_,ic .releaseMerge (by simp) rfl rfl (by k_ne) rfl cC.f_relMerge (x_relMerge_n aD) (x_relMerge_b aD) (x_relMerge_x aD) (x_relMerge_f aD) (by simp[bX,muA]),hs,dZ.refl _,rfl,(by simp),?_⟩⟩⟩⟩⟩
 refine⟨30,?_⟩
 walk_nrm
 repeat w_go KX.rely
 s_at KX.rely
 refine⟨by simp[we],λ _=>⟨rfl,rfl,λ s hs _=>⟨by simp[mv],λ _=>⟨(at_ .u0,s),by simp[mv],λ _=>⟨_,_,_,gk .disable (by simp) rfl rfl (by k_ne) rfl cC.f_disable (vP aD) (vN aD) (vQ aD) (vO aD),hs,dZ.refl _,bu (by simp) (by simp) (by simp) (by simp) (by simpa [cH,mk] using book_dis (Mu:=ph.Mu) (Wg:=ph.Wg) 0),(by simp),?_⟩⟩⟩⟩⟩
 refine⟨30,?_⟩
 walk_nrm
 repeat w_go KX.rely
 s_at KX.rely
 refine⟨by simp[we],λ _=>⟨rfl,rfl,λ s hs _=>⟨λ h=>?_,λ _=>?_⟩⟩⟩
 ·exfalso;revert h;simp only[mv];(repeat' split)<;>simp
 obtain⟨mu,ms,wg,ws⟩:=s
 by_cases h1:mu=1
 ·subst h1
  refine⟨(at_ .ue,⟨0,ms,wg,ws⟩),by simp[mv],λ _=>⟨_,_,_,iH rfl rfl (by k_ne) rfl Tryz.func190 VF VD VG .i32 VE rfl rfl hs.1.cellSt (hs.1.thaw 0),hs.setMu _,dZ.set _ _ (.inl rfl),bu (by simp) (by simp) (by simp) (by simp) (by simpa [cH,mk] using s7 (Mu:=ph.Mu) (Wg:=ph.Wg) 0 (muA ph.Mu) (.inl rfl)),(by simp),?_⟩⟩
  refine⟨30,?_⟩
  walk_nrm
  simp only[show IntKind.i32.wrap (1+-1)=0 from by decide]
  replace hF:=hF.Uw (dZ.set (muA ph.Mu) (.int .i32 0) (.inl rfl)) (hs.setMu 0)
  repeat w_go KX.rely
  s_at KX.rely
  refine⟨by simp[we],λ _=>⟨rfl,rfl,λ s hs _=>⟨by simp[mv],λ _=>⟨(at_ (if fX then .kd else .wr),s),by simp[mv],λ _=>⟨_,_,_,gk .enable (by simp) rfl rfl (by k_ne) rfl cC.f_enable (kZ aD) (kX aD) (k8 aD) (kY aD),hs,dZ.refl _,bu (by simp) (by simp) (by simp) (by simp) (by cases fX<;>simpa [cH,mk] using book_en (Mu:=ph.Mu) (Wg:=ph.Wg) 0),(by simp),?_⟩⟩⟩⟩⟩
  obtain⟨mT,wh⟩:=hT k
  refine⟨mT+12,?_⟩
  walk_nrm
  repeat w_go KX.rely
  u_leave0 Tryz.func122 KX.rely hF
  repeat w_go KX.rely
  (u_in KX.rely hF;rw[stepG_leave_deferred rfl rfl Tryz.func70 (results_none rfl _ _ _) (events_results_none rfl _ _) hcm];simp only[rz];refine⟨by u_nil,?_⟩)
  exact kD (wh _ hF) _
 by_cases h9:mu=9
 ·subst h9
  refine⟨({ pc:=.uc,old:=8,nw:=2 },⟨8,ms,wg,ws⟩),by simp[mv],λ _=>⟨_,_,_,iH rfl rfl (by k_ne) rfl Tryz.func190 VF VD VG .i32 VE rfl rfl hs.1.cellSt (hs.1.thaw 0),hs.setMu _,dZ.set _ _ (.inl rfl),bu (by simp) (by simp) (by simp) (by simp) (by simpa [cH,mk] using s7 (Mu:=ph.Mu) (Wg:=ph.Wg) 0 (muA ph.Mu) (.inl rfl)),(by simp),?_⟩⟩
  refine⟨80,?_⟩
  walk_nrm
  simp only[show IntKind.i32.wrap (9+-1)=8 from by decide]
  replace hF:=hF.Uw (dZ.set (muA ph.Mu) (.int .i32 8) (.inl rfl)) (hs.setMu 8)
  repeat w_go KX.rely
  u_call Tryz.func191 Ua Tryz.f191 KX.rely hF
  repeat w_go KX.rely
  simp only[show bits BinOp.or IntKind.i32 0 2=2 from by decide]
  s_at KX.rely
  refine⟨by simp[we],λ _=>⟨rfl,rfl,λ s hs _=>⟨λ h=>?_,λ _=>?_⟩⟩⟩
  ·exfalso;revert h;simp only[mv];(repeat' split)<;>simp
  obtain⟨mu,ms,wg,ws⟩:=s
  by_cases h8:mu=8
  ·subst h8
   refine⟨(at_ .us,⟨2,ms,wg,ws⟩),by simp[mv],λ _=>⟨_,_,_,jO rfl rfl (by k_ne) rfl jJ mF mD mG .i32 mE rfl rfl rfl hs.1.cellSt (hs.1.thaw 0),hs.setMu 2,dZ.set _ _ (.inl rfl),bu (by simp) (by simp) (by simp) (by simp) (by simpa [cH,mk] using s7 (Mu:=ph.Mu) (Wg:=ph.Wg) 0 (muA ph.Mu) (.inl rfl)),(by simp),?_⟩⟩
   replace hF:=hF.Uw (dZ.set (muA ph.Mu) (.int .i32 2) (.inl rfl)) (hs.setMu 2)
   refine⟨40,?_⟩
   walk_nrm
   repeat w_go KX.rely
   s_at KX.rely
   refine⟨by simp[we],λ _=>⟨rfl,rfl,λ s hs zy9=>⟨by simp[mv],λ _=>?_⟩⟩⟩
   obtain⟨mu,ms,wg,ws⟩:=s
   have hw1:IntKind.u32.wrap (ms+1)=ms+1:=by rcases (zis zy9).2 with h|h<;>simp only at h<;>subst h<;>decide
   refine⟨(at_ .ue,⟨mu,ms+1,wg,ws⟩),by simp[mv],λ _=>⟨_,_,_,stepG_semrelease rfl rfl (by k_ne) rfl Tryz.func235 zfo VH zfp zfn (by simp[bX,msA]) hs.1.cellSm (hs.1.thaw 1),by rw[hw1];exact hs.setMs (ms+1),dZ.set _ _ (.inl rfl),bu (by simp) (by simp) (by simp) (by simp) (by simpa [cH,mk] using book_sem (Mu:=ph.Mu) (Wg:=ph.Wg) 0 (msA ph.Mu) (.inl rfl)),(λ _=>mayWake_entry rfl rfl Tryz.func235 VH),?_⟩⟩
   replace hF:=hF.Uw (dZ.set (msA ph.Mu) (.int .u32 (IntKind.u32.wrap (ms+1))) (.inl rfl)) (by rw[hw1];exact hs.setMs (ms+1))
   refine⟨40,?_⟩
   walk_nrm
   repeat w_go KX.rely
   u_leave0 Tryz.func191 KX.rely hF
   repeat w_go KX.rely
   s_at KX.rely
   refine⟨by simp[we],λ _=>⟨rfl,rfl,λ s hs _=>⟨by simp[mv],λ _=>⟨(at_ (if fX then .kd else .wr),s),by simp[mv],λ _=>⟨_,_,_,gk .enable (by simp) rfl rfl (by k_ne) rfl cC.f_enable (kZ aD) (kX aD) (k8 aD) (kY aD),hs,dZ.refl _,bu (by simp) (by simp) (by simp) (by simp) (by cases fX<;>simpa [cH,mk] using book_en (Mu:=ph.Mu) (Wg:=ph.Wg) 0),(by simp),?_⟩⟩⟩⟩⟩
   obtain⟨mT,wh⟩:=hT k
   refine⟨mT+12,?_⟩
   walk_nrm
   repeat w_go KX.rely
   u_leave0 Tryz.func122 KX.rely hF
   repeat w_go KX.rely
   (u_in KX.rely hF;rw[stepG_leave_deferred rfl rfl Tryz.func70 (results_none rfl _ _ _) (events_results_none rfl _ _) hcm];simp only[rz];refine⟨by u_nil,?_⟩)
   exact kD (wh _ hF) _
  ·exact⟨(at_ .bad,⟨mu,ms,wg,ws⟩),by simp[mv,h8],λ h=>absurd rfl h⟩
 ·exact⟨(at_ .bad,⟨mu,ms,wg,ws⟩),by simp[mv,h1,h9],λ h=>absurd rfl h⟩
end
end Rn
namespace Rn
open Go
def oX(b lo hi:Nat)(wr:Bool)(e:bT):Prop:=∃j,lo<=j/\j<hi/\e=⟨.cell ⟨b,j,ak⟩,wr,aa⟩
def pP:aj->Bool
 |.agg _|.tuple _=>aa
 |_=>ae
section
variable{P:aG}
theorem jx(b o j:Nat):(⟨b,o,ak⟩:cr).add j=⟨b,o+j,ak⟩:=by unfold Addr.add;split<;>simp_all
variable{w:ai}{b:Nat}{cs:Array aj}{e:au}
theorem Y0{f:Nat×Nat}(h:w.heap[b]?=ab (.cells cs e f))(j:Nat):w.cell? ⟨b,j,ak⟩=cs[j]?:=by simp[World.cell?,h]
theorem Zm{w:ai}{b o:Nat}{cs:Array aj}{e:au}{f:Nat×Nat}(h:w.heap[b]?=ab (.cells cs e f)):∀(n i:Nat) (acc:Array aj) (es:Array bT),o+i+n<=cs.size->
  ∃es',(jM ⟨b,o,ak⟩ i n acc).runT P w es=(.ok (acc++cs.extract (o+i) (o+i+n)) w,es++es')/\∀ev∈es',oX b (o+i) (o+i+n) aa ev
 |0,i,acc,es,_=>⟨#[],by simp[jM,Sem.runT,bN];omega,by simp⟩
 |n+1,i,acc,es,hn=>by
  have cj:o+i<cs.size:=by omega
  obtain⟨es',h1,h2⟩:=Zm (o:=o) h n (i+1) (acc.push cs[o+i]) (es.push ⟨.cell ⟨b,o+i,ak⟩,aa,aa⟩) (by omega)
  refine⟨#[⟨.cell ⟨b,o+i,ak⟩,aa,aa⟩]++es',?_,?_⟩
  ·have e1:(jM ⟨b,o,ak⟩ i (n+1) acc).runT P w es=(jM ⟨b,o,ak⟩ (i+1) n (acc.push cs[o+i])).runT P w (es.push ⟨.cell ⟨b,o+i,ak⟩,aa,aa⟩):=by
    show Sem.runT P (.load .plain ((⟨b,o,ak⟩:cr).add i) λ v=>jM ⟨b,o,ak⟩ (i+1) n (acc.push v)) w es=_
    rw[jx]
    simp only[Sem.runT,Y0 h,bj cj]
    rfl
   rw[e1,h1]
   refine Prod.ext ?_ ?_
   ·simp only[Result.ok.injEq,and_true]
    apply fj
    simp only[dw,Array.toList_push,cD,dN]
    congr 1
    rw[show o+(i+1)=o+i+1 by omega]
    rw[bI,bI]
    rw[show o+i+1+n-(o+i+1)=n by omega,show o+i+(n+1)-(o+i)=n+1 by omega]
    rw[List.drop_eq_getElem_cons (i:=o+i) (by simpa using cj),List.take_succ_cons]
    simp
   ·simp
  ·intro ev sC
   rcases qT.1 sC with hv|hv
   ·exact⟨o+i,by omega,by omega,by simpa using hv⟩
   ·obtain⟨j,a1,a2,a3⟩:=h2 ev hv
    exact⟨j,by omega,by omega,a3⟩
theorem dt{α β:Type}(x:Sem α)(f:α->Sem β)(w:ai)(es:Array bT):(x >>= f).runT P w es=match x.runT P w es with
   |(.ok a w',es')=>(f a).runT P w' es'
   |(.halt h w',es')=>(.halt h w',es'):=Sem.runT_bind' P x f w es
variable{t:au}
theorem xv{d:ia}(h:P.underlying t=ab d)(w:ai)(es:Array bT):(underlying t).runT P w es=(.ok d w,es):=by
 show Sem.runT P (match P.underlying t with|some d=>Sem.pure d|none=>stuck "no such type") w es=_
 rw[h];rfl
theorem PL{d:ia}(h:P.underlying t=ab d)(hd:d.isRow=ae)(w:ai)(es:Array bT):(isAgg t).runT P w es=(.ok ae w,es):=by
 unfold isAgg
 rw[dt,xv h]
 cases d<;>first|(cases hd;done)|rfl
theorem WU{i:lx}(h:P.info? t=ab i)(w:ai)(es:Array bT):(typeInfo t).runT P w es=(.ok i w,es):=by
 show Sem.runT P (match P.info? t with|some i=>Sem.pure i|none=>stuck "no such type") w es=_
 rw[h];rfl
variable{n:Nat}
theorem vz(h:(P.info? t).map (·.size)=ab n)(w:ai)(es:Array bT):(sizeOf t).runT P w es=(.ok n w,es):=by
 obtain⟨i,h1,rfl⟩:=aN.1 h
 unfold sizeOf
 rw[dt,WU h1]
 rfl
theorem zhV{o:Nat}{d:ia}{f:Nat×Nat}(h:w.heap[b]?=ab (.cells cs e f))(hu:P.underlying t=ab d)(hd:d.isRow=ae)(hs:(P.info? t).map (·.size)=ab n)(hn:o+n<=cs.size):
  ∃es',(eY t (.pointer (ab ⟨b,o,ak⟩))).runT P w #[]=(.ok (.agg (cs.extract o (o+n))) w,es')/\∀ev∈es',oX b o (o+n) aa ev:=by
 obtain⟨es',h1,h2⟩:=Zm (P:=P) (o:=o) h n 0 #[] #[] (by omega)
 refine⟨es',?_,by simpa using h2⟩
 unfold eY bZ
 show (et t ⟨b,o,ak⟩).runT P w #[]=_
 unfold et
 rw[dt,PL hu hd]
 simp only[if_true]
 rw[dt,vz hs]
 simp only
 rw[dt]
 unfold loadCells
 rw[h1]
 simp[bN,Sem.runT]
theorem P1{b o:Nat}{e:au}:∀(vs:List aj) (i:Nat) (w:ai) (cs:Array aj) (es:Array bT),w.heap[b]?=ab (.cells cs e)->o+i+vs.length<=cs.size->(∀v∈vs,pP v=ae)->
  ∃w' es',(l4 ⟨b,o,ak⟩ vs i).runT P w es=(.ok () w',es++es')/\(∀ev∈es',oX b (o+i) (o+i+vs.length) ae ev)/\
   w'.heap[b]?=ab (.cells (cs.extract 0 (o+i)++vs.toArray++cs.extract (o+i+vs.length) cs.size) e)/\(∀k,k≠b->w'.heap[k]?=w.heap[k]?)/\w'.heap.size=w.heap.size/\w'.os=w.os/\w'.tape=w.tape/\w'.output=w.output/\w'.drawn=w.drawn
 |[],i,w,cs,es,h,hn,_=>⟨w,#[],by simp[l4,Sem.runT,bN],by simp,by
   rw[h]
   have:cs.extract 0 (o+i)++([]:List aj).toArray++cs.extract (o+i+([]:List aj).length) cs.size=cs:=by
    apply fj
    simp
    exact bq (by simp;omega)
   rw[this],λ _ _=>rfl,rfl,rfl,rfl,rfl,rfl⟩
 |v::vs,i,w,cs,es,h,hn,hv=>by
  have cj:o+i<cs.size:=by simp at hn;omega
  have Yt:(w.setCell ⟨b,o+i,ak⟩ v).heap[b]?=ab (.cells (cs.set (o+i) v) e):=by
   simp[World.setCell,h,du,Array.setIfInBounds,cj]
  obtain⟨w',es',h1,h2,h3,h4,h5,h6,h7,h8,h9⟩:=P1 (o:=o) vs (i+1) (w.setCell ⟨b,o+i,ak⟩ v) (cs.set (o+i) v) (es.push ⟨.cell ⟨b,o+i,ak⟩,ae,aa⟩) Yt (by simp at hn ⊢;omega) (λ u hu=>hv u (by simp[hu]))
  refine⟨w',#[⟨.cell ⟨b,o+i,ak⟩,ae,aa⟩]++es',?_,?_,?_,λ k hk=>?_,?_,h6,h7,h8,h9⟩
  ·have e1:(l4 ⟨b,o,ak⟩ (v::vs) i).runT P w es=(l4 ⟨b,o,ak⟩ vs (i+1)).runT P (w.setCell ⟨b,o+i,ak⟩ v) (es.push ⟨.cell ⟨b,o+i,ak⟩,ae,aa⟩):=by
    show Sem.runT P (.store .plain ((⟨b,o,ak⟩:cr).add i) v (l4 ⟨b,o,ak⟩ vs (i+1))) w es=_
    rw[jx]
    have hfz:w.frozen? ⟨b,o+i,ak⟩=aa:=by simp[World.frozen?,h]
    have hv1:=hv v (by simp)
    cases v<;>first|(cases hv1;done)|(simp only[Sem.runT,Y0 h,bj cj,hfz,ca,if_false];rfl)
   rw[e1,h1]
   simp
  ·intro ev sC
   rcases qT.1 sC with hx|hx
   ·exact⟨o+i,by omega,(by simp only[bP];omega),by simpa using hx⟩
   ·obtain⟨j,a1,a2,a3⟩:=h2 ev hx
    exact⟨j,by omega,by simp;omega,a3⟩
  ·rw[h3]
   congr 2
   apply fj
   have e1:o+(i+1)=(o+i)+1:=by omega
   have e2:o+i+1+vs.length=o+i+(vs.length+1):=by omega
   simp only[e1,dw,cD,Array.toList_set,bI,Array.size_set,bP,jH,fL,e2]
   rw[Da (by omega)]
   rw[dO,qp (by simpa using cj),Dc (by omega)]
   simp
  ·rw[h4 k hk]
   simp[World.setCell,du,dr hk]
  ·rw[h5];simp[World.setCell]
theorem zsg{o:Nat}{vs:Array aj}(h:w.heap[b]?=ab (.cells cs e))(hs:(P.info? t).map (·.size)=ab n)(hv:vs.size=n)(hn:o+n<=cs.size)(h1:vs.all pP=ae):
  ∃w' es',(lf t (.pointer (ab ⟨b,o,ak⟩)) (.agg vs)).runT P w #[]=(.ok () w',es')/\(∀ev∈es',oX b o (o+n) ae ev)/\
   w'.heap[b]?=ab (.cells (cs.extract 0 o++vs++cs.extract (o+n) cs.size) e)/\(∀k,k≠b->w'.heap[k]?=w.heap[k]?)/\w'.heap.size=w.heap.size/\w'.os=w.os/\w'.tape=w.tape/\w'.output=w.output/\w'.drawn=w.drawn:=by
 rw[aT] at h1
 obtain⟨w',es',a1,a2,a3,a4⟩:=P1 (P:=P) (o:=o) vs.toList 0 w cs #[] h (by simp[hv];omega) (λ v hx=>h1 v (by simpa using hx))
 have e:(rW t ⟨b,o,ak⟩ (.agg vs)).runT P w #[]=(l4 ⟨b,o,ak⟩ vs.toList 0).runT P w #[]:=by
  unfold rW
  rw[dt,vz hs]
  have hc:(tr vs).cells.size=n:=hv
  simp only[hc,ne_eq,not_true_eq_false,if_false]
  rfl
 refine⟨w',es',?_,by simpa [hv] using a2,by simpa [hv] using a3,a4⟩
 unfold lf bZ
 show (rW t ⟨b,o,ak⟩ (.agg vs)).runT P w #[]=_
 rw[e,a1]
 simp
end
open Go.Conc
section
variable{P:aG}{main:Bool}{b:aB}{a:Act}{kk:List Item}{cs:List aB}{w w':ai}{ops:Array Oper}{i:Nat}{rest:List Nat}{o:Oper}{es:Array bT}
variable{v:aj}
theorem tX(ho:ops[i]?=ab o)(hw:aR o (yielded ops a.tmps)=ae)(hk:b.kind≠.early)(h:(bd a.eval o).runT P w #[]=(.ok (.value v) w',es)):
  bU P main (G (b.at a (.inRegion ops (i::rest)::kk)) cs) w=.go (G (b.at (a.put o.dst v) (.inRegion ops rest::kk)) cs) w' (seen P b.fn es):=by
 simp only[Sem.runT_eq,bz] at h
 rw[stepG_value ho hw hk h.1]
 unfold listed
 rw[h.2]
theorem step_skip(ho:ops[i]?=ab o)(hw:aR o (yielded ops a.tmps)=ae)(hk:b.kind≠.early)(h:(bd a.eval o).runT P w #[]=(.ok .skip w',es)):
  bU P main (G (b.at a (.inRegion ops (i::rest)::kk)) cs) w=.go (G (b.at (a.put o.dst undef) (.inRegion ops rest::kk)) cs) w' (seen P b.fn es):=by
 simp only[Sem.runT_eq,bz] at h
 rw[stepG_none ho hw hk h.1]
 unfold listed
 rw[h.2]
variable{t e:au}{x:bp}{r off:Nat}{c:Array aj}
theorem Vs{n:Nat}{d:ia}{f:Nat×Nat}(ho:ops[i]?=ab o)(hw:aR o (yielded ops a.tmps)=ae)(hk:b.kind≠.early)(cM:o.op=.load t x)
  (hx:a.eval x=.pointer (ab ⟨r,off,ak⟩)) (h:w.heap[r]?=ab (.cells c e f)) (hu:P.underlying t=ab d) (hd:d.isRow=ae) (hs:(P.info? t).map (·.size)=ab n) (hn:off+n<=c.size):
  ∃es,bU P main (G (b.at a (.inRegion ops (i::rest)::kk)) cs) w=.go (G (b.at (a.put o.dst (.agg (c.extract off (off+n)))) (.inRegion ops rest::kk)) cs) w es/\∀ev∈es,oX r off (off+n) aa ev:=by
 obtain⟨es',h1,h2⟩:=zhV (P:=P) (o:=off) h hu hd hs hn
 refine⟨_,tX ho hw hk (es:=es') ?_,λ ev sC=>h2 ev (mem_seen sC)⟩
 unfold bd
 simp only[cM,hx]
 rw[dt,h1]
 rfl
theorem zcd{d:ia}(ho:ops[i]?=ab o)(hw:aR o (yielded ops a.tmps)=ae)(hk:b.kind≠.early)(cM:o.op=.load t x)
  (hx:a.eval x=.pointer (ab ⟨r,off,ak⟩)) (h:w.cell? ⟨r,off,ak⟩=ab v) (hu:P.underlying t=ab d) (hd:d.isRow=aa):
  ∃es,bU P main (G (b.at a (.inRegion ops (i::rest)::kk)) cs) w=.go (G (b.at (a.put o.dst v) (.inRegion ops rest::kk)) cs) w es/\∀ev∈es,oX r off (off+1) aa ev:=by
 refine⟨_,tX ho hw hk (es:=#[⟨.cell ⟨r,off,ak⟩,aa,aa⟩]) ?_,λ ev sC=>⟨off,by omega,by omega,by simpa using mem_seen sC⟩⟩
 unfold bd
 simp only[cM,hx]
 have e1:(isAgg t).runT P w #[]=(.ok aa w,#[]):=by
  unfold isAgg
  rw[dt,xv hu]
  cases d<;>first|(cases hd;done)|rfl
 have e2:(eY t (.pointer (ab ⟨r,off,ak⟩))).runT P w #[]=(.ok v w,#[⟨.cell ⟨r,off,ak⟩,aa,aa⟩]):=by
  unfold eY bZ
  show (et t ⟨r,off,ak⟩).runT P w #[]=_
  unfold et
  rw[dt,e1]
  simp only[ca,if_false]
  show Sem.runT P (.load .plain ⟨r,off,ak⟩ .pure) w #[]=_
  simp only[Sem.runT,h]
  rfl
 rw[dt,e2]
 rfl
theorem Fw{y:bp}{n:Nat}{vs:Array aj}(ho:ops[i]?=ab o)(hw:aR o (yielded ops a.tmps)=ae)(hk:b.kind≠.early)(cM:o.op=.store t x y)
  (hx:a.eval x=.pointer (ab ⟨r,off,ak⟩)) (hy:a.eval y=.agg vs) (h:w.heap[r]?=ab (.cells c e)) (hs:(P.info? t).map (·.size)=ab n) (hv:vs.size=n) (hn:off+n<=c.size) (h1:vs.all pP=ae):
  ∃w' es,bU P main (G (b.at a (.inRegion ops (i::rest)::kk)) cs) w=.go (G (b.at (a.put o.dst undef) (.inRegion ops rest::kk)) cs) w' es/\(∀ev∈es,oX r off (off+n) ae ev)/\
   w'.heap[r]?=ab (.cells (c.extract 0 off++vs++c.extract (off+n) c.size) e)/\(∀k,k≠r->w'.heap[k]?=w.heap[k]?)/\w'.heap.size=w.heap.size/\w'.os=w.os/\w'.tape=w.tape/\w'.output=w.output/\w'.drawn=w.drawn:=by
 obtain⟨w',es',a1,a2,a3⟩:=zsg (P:=P) (o:=off) h hs hv hn h1
 refine⟨w',_,step_skip ho hw hk (es:=es') ?_,λ ev sC=>a2 ev (mem_seen sC),a3⟩
 unfold bd
 simp only[cM,hx,hy]
 rw[dt,a1]
 rfl
theorem zaj{y:bp}(ho:ops[i]?=ab o)(hw:aR o (yielded ops a.tmps)=ae)(hk:b.kind≠.early)(cM:o.op=.store t x y)
  (hx:a.eval x=.pointer (ab ⟨r,off,ak⟩)) (hy:a.eval y=v) (h:w.heap[r]?=ab (.cells c e)) (hs:(P.info? t).map (·.size)=ab 1) (hn:off<c.size) (h1:pP v=ae):
  ∃w' es,bU P main (G (b.at a (.inRegion ops (i::rest)::kk)) cs) w=.go (G (b.at (a.put o.dst undef) (.inRegion ops rest::kk)) cs) w' es/\(∀ev∈es,oX r off (off+1) ae ev)/\
   w'.heap[r]?=ab (.cells (c.extract 0 off++#[v]++c.extract (off+1) c.size) e)/\(∀k,k≠r->w'.heap[k]?=w.heap[k]?)/\w'.heap.size=w.heap.size/\w'.os=w.os/\w'.tape=w.tape/\w'.output=w.output/\w'.drawn=w.drawn:=by
 obtain⟨w',es',a1,a2,a3,a4⟩:=P1 (P:=P) (o:=off) [v] 0 w c #[] h (by simp;omega) (λ u hu=>by simp at hu;rw[hu];exact h1)
 have e2:(lf t (.pointer (ab ⟨r,off,ak⟩)) v).runT P w #[]=(.ok () w',es'):=by
  unfold lf bZ
  show (rW t ⟨r,off,ak⟩ v).runT P w #[]=_
  have hc:v.cells=#[v]:=by cases v<;>first|(cases h1;done)|rfl
  unfold rW
  rw[dt,vz hs]
  have hc1:v.cells.size=1:=by rw[hc];rfl
  simp only[hc1,ne_eq,not_true_eq_false,if_false]
  rw[hc]
  show (l4 ⟨r,off,ak⟩ [v] 0).runT P w #[]=_
  rw[a1]
  simp
 refine⟨w',_,step_skip ho hw hk (es:=es') ?_,λ ev sC=>?_,by simpa using a3,a4⟩
 ·unfold bd
  simp only[cM,hx,hy]
  rw[dt,e2]
  rfl
 ·simpa using a2 ev (mem_seen sC)
theorem Fv{inf:lx}{z:aj}(ho:ops[i]?=ab o)(hw:aR o (yielded ops a.tmps)=ae)(hk:b.kind≠.early)(cM:o.op=.alloc t)(hi:P.info? t=ab inf)(hz:inf.zero=ab z):
  bU P main (G (b.at a (.inRegion ops (i::rest)::kk)) cs) w=.go (G (b.at (a.put o.dst (.pointer (ab ⟨w.heap.size,0,ak⟩))) (.inRegion ops rest::kk)) cs) { w with heap:=w.heap.push (.cells z.cells t) } #[]:=by
 have h:(bd a.eval o).runT P w #[]=(.ok (.value (.pointer (ab ⟨w.heap.size,0,ak⟩))) { w with heap:=w.heap.push (.cells z.cells t) },#[]):=by
  unfold bd
  simp only[cM]
  have e1:(ee t).runT P w #[]=(.ok z w,#[]):=by
   unfold ee
   rw[dt,WU hi]
   simp only[hz]
   rfl
  rw[dt]
  unfold Instr.alloc
  rw[dt,e1]
  rfl
 rw[tX ho hw hk h,xI]
theorem zjE(ho:ops[i]?=ab o)(hw:aR o (yielded ops a.tmps)=ae)(hk:b.kind≠.early)(cM:o.op=.box t x)(hx:a.eval x=v):
  bU P main (G (b.at a (.inRegion ops (i::rest)::kk)) cs) w=.go (G (b.at (a.put o.dst (.pointer (ab ⟨w.heap.size,0,ak⟩))) (.inRegion ops rest::kk)) cs) { w with heap:=w.heap.push (.cells v.cells t) } #[]:=by
 have h:(bd a.eval o).runT P w #[]=(.ok (.value (.pointer (ab ⟨w.heap.size,0,ak⟩))) { w with heap:=w.heap.push (.cells v.cells t) },#[]):=by
  unfold bd
  simp only[cM,hx]
  rfl
 rw[tX ho hw hk h,xI]
theorem xK{f:FuncId}{fn:Func}{args:Array bp}{qv:Array au}(ho:ops[i]?=ab o)(hw:aR o (yielded ops a.tmps)=ae)(hk:b.kind≠.early)(cM:o.op=.call { callee:=.value (.func f),args,argTypes:=qv })
  (hf:P.funcs[f]?=ab fn) (zcY:(fn.name == "runtime.NumGoroutine")=aa) (hb:fn.body.isNone=aa):
  bU P main (G (b.at a (.inRegion ops (i::rest)::kk)) cs) w=.go (G (aU P f (args.map a.eval) .normal) (b.at a (.inRegion ops (i::rest)::kk)::cs)) w #[]:=by
 rw[stepG_enter ho hw hk (run_call_body cM hf zcY hb)]
 unfold listed
 rw[events_call_body cM hf zcY hb,xI]
end
end Rn
namespace Rn
open Go Go.Conc Go.ConcN Go.ConcM Go.RowKit Go.Conc.Lib Go.ConcR.Gen
open Go.ConcR (KK WgAt stA smA rd wr mk DC0)
section
variable{P:aG}{ph:Ph}{s:Nat}{main:Bool}{WS RS:Nat->Prop}{g g':aI}{w w':ai}{es:Array bT}
theorem CJ(b:Nat):WS b↔WS b\/(w.heap.size<=b/\b<w.heap.size/\¬ph.sh b):=⟨.inl,λ h=>h.elim id λ z=>by omega⟩
variable{r lo hi:Nat}
theorem U5{WS RS:Nat->Prop}{wrt:Bool}(h:WS r\/(RS r/\wrt=aa)){e:bT}(he:oX r lo hi wrt e):tE ph s main WS RS e:=by
 obtain⟨j,_,_,rfl⟩:=he
 refine⟨λ x hx=>?_,λ a ha=>by cases wrt<;>cases ha⟩
 have:x=⟨.cell ⟨r,j,ak⟩,wrt,.plain⟩:=by cases wrt<;>simpa [aP,cB,eq_comm] using hx
 subst this
 exact .inl ⟨r,rfl,h⟩
theorem lQ{wrt:Bool}(h:∀ev∈es,oX r lo hi wrt ev):Wm es:=by
 intro e he
 obtain⟨j,_,_,rfl⟩:=h e he
 exact⟨by simp,by simp⟩
theorem Hr(hr:WS r\/RS r)(e:bU P main g w=.go g' w es)(he:∀ev∈es,oX r lo hi aa ev):Sil P ph s main WS RS g w WS g' w es []:=
 ⟨.inl ⟨rfl,e⟩,aA _,λ _ _ _ _=>rfl,λ cs h=>⟨cs,h,λ _ _ _=>rfl⟩,.refl _,rfl,rfl,λ ev sC=>U5 (hr.imp id λ z=>⟨z,rfl⟩) (he ev sC),by simp,CJ⟩
theorem znC{o:Obj}(hl:Lv ph w)(e:bU P main g w=.go g' { w with heap:=w.heap.push o } #[]):Sil P ph s main WS RS g w (λ b=>WS b\/b=w.heap.size) g' { w with heap:=w.heap.push o } #[] []:=by
 have blk:∀b,b<w.heap.size->(w.heap.push o)[b]?=w.heap[b]?:=λ b hb=>by rw[bJ,if_neg (by omega)]
 refine⟨.inl ⟨rfl,e⟩,by simp,λ b hb _ _=>blk b hb,λ cs h=>⟨cs,⟨(blk _ (hl.lt (.inr (.inr rfl)))).trans h.1,h.2⟩,λ _ _ _=>rfl⟩,.refl _,rfl,rfl,by simp,by simp,λ b=>?_⟩
 simp only[sG]
 constructor
 ·rintro (h|rfl)
  ·exact .inl h
  ·exact .inr ⟨aA _,by omega,λ hb=>by have:=hl.lt hb;omega⟩
 ·rintro (h|⟨h1,h2,_⟩)
  ·exact .inl h
  ·exact .inr (by omega)
theorem zhX{o:Obj}(hl:Lv ph w):Lv ph { w with heap:=w.heap.push o }:=hl.same λ b hb=>by
 show (w.heap.push o)[b]?=_
 rw[bJ,if_neg (by have:=hl.lt hb;omega)]
theorem Ka(hr:WS r)(hn:¬ph.sh r)(e:bU P main g w=.go g' w' es)(he:∀ev∈es,oX r lo hi ae ev)(hb:∀k,k≠r->w'.heap[k]?=w.heap[k]?)(hz:w'.heap.size=w.heap.size)(ho:w'.os=w.os)(ht:w'.tape=w.tape)(hu:w'.output=w.output):
  Sil P ph s main WS RS g w WS g' w' es []:=
 ⟨.inl ⟨rfl,e⟩,dh hz.symm,λ b _ hw _=>hb b λ z=>hw (z▸hr),λ cs h=>⟨cs,⟨(hb _ λ z=>hn (.inr (.inr z.symm))).trans h.1,h.2⟩,λ _ _ _=>rfl⟩,by rw[ho];exact .refl _,ht,hu,
  λ ev sC=>U5 (.inl hr) (he ev sC),by simp,λ b=>by rw[hz];exact CJ b⟩
theorem J1(ph:Ph)(s:Nat)(cs:Array aj):(half ph s cs).toList=(cs.toList.drop (s*ph.d)).take ph.d:=by
 unfold half
 rw[cD,bI]
 congr 1
 omega
variable{cs vs:Array aj}
theorem zbH{d s s':Nat}(ph:Ph)(hd:ph.d=d)(hc:cs.size=2*d)(hv:vs.size=d)(hs:s<2)(hs':s'<2)(fh:s'≠s):
  half ph s' (cs.extract 0 (s*d)++vs++cs.extract (s*d+d) cs.size)=half ph s' cs:=by
 subst hd
 apply fj
 rw[J1,J1]
 have hl:cs.toList.length=2*ph.d:=by simpa using hc
 have hvl:vs.toList.length=ph.d:=by simpa using hv
 have h2:(s=0/\s'=1)\/(s=1/\s'=0):=by omega
 simp only[dw,cD,bI]
 rcases h2 with⟨rfl,rfl⟩|⟨rfl,rfl⟩
 ·simp only[Hw,jH,fL,nL,ju,fQ,pA]
  rw[zU hvl,List.take_take]
  congr 1
  have hz:cs.size=2*ph.d:=hc
  omega
 ·simp only[Hw,jH,fL,pA,dN]
  rw[oQ (by simp[hl];omega)]
theorem ziA{d s:Nat}(ph:Ph)(hd:ph.d=d)(hc:cs.size=2*d)(hv:vs.size=d)(hs:s<2):
  half ph s (cs.extract 0 (s*d)++vs++cs.extract (s*d+d) cs.size)=vs:=by
 subst hd
 apply fj
 rw[J1]
 have hl:cs.toList.length=2*ph.d:=by simpa using hc
 have hvl:vs.toList.length=ph.d:=by simpa using hv
 have hle:s*ph.d<=2*ph.d:=br _ (by omega)
 simp only[dw,cD,bI,jH,fL,dN]
 rw[zU (by rw[List.length_take,hl];omega),oQ hvl]
theorem zr8{n:Nat}(hs:s<2)(hd:ph.d=n)(hc:Am ph w cs)(hv:vs.size=n)(e:bU P main g w=.go g' w' es)(he:∀ev∈es,oX ph.Bo (s*n) (s*n+n) ae ev)
  (Aq:w'.heap[ph.Bo]?=ab (.cells (cs.extract 0 (s*n)++vs++cs.extract (s*n+n) cs.size) ph.tB)) (hb:∀k,k≠ph.Bo->w'.heap[k]?=w.heap[k]?) (hz:w'.heap.size=w.heap.size) (ho:w'.os=w.os) (ht:w'.tape=w.tape) (hu:w'.output=w.output):
  Sil P ph s main WS RS g w WS g' w' es []:=by
 have hcs:cs.size=2*n:=hd▸hc.2
 refine⟨.inl ⟨rfl,e⟩,dh hz.symm,λ b _ _ hw=>hb b hw,λ kT h=>?_,by rw[ho];exact .refl _,ht,hu,λ ev sC=>?_,by simp,λ b=>by rw[hz];exact CJ b⟩
 ·have:kT=cs:=by have:=h.1.symm.trans hc.1;simpa using this
  subst this
  refine⟨_,⟨Aq,?_⟩,λ s' h1 h2=>zbH ph hd hcs hv hs h1 h2⟩
  have h2:s=0\/s=1:=by omega
  simp only[vS,Array.size_extract,hv,hd,hcs]
  rcases h2 with rfl|rfl<;>simp<;>omega
 ·obtain⟨j,h1,h2,rfl⟩:=he ev sC
  refine⟨λ x hx=>?_,λ a ha=>by cases ha⟩
  have:x=⟨.cell ⟨ph.Bo,j,ak⟩,ae,.plain⟩:=by simpa [aP,cB,eq_comm] using hx
  subst this
  exact .inr (.inl ⟨_,rfl,rfl,by rw[hd];exact h1,by rw[hd];exact h2⟩)
end
section
variable{ph:Ph}{s:Nat}{fX:Bool}{F:(Nat->Prop)->(Nat->Prop)->ai->Prop}{WS RS:Nat->Prop}{w0 w:ai}
variable{vh:aB}{nN:Act}{jk:Array Oper}{C7:Nat}{mZ:List Nat}{Gv:List Item}{cs:List aB}{o:Oper}
theorem Xl{args:Array bp}{qv:Array au}(ho:jk[C7]?=ab o)(hw:aR o (yielded jk nN.tmps)=ae)(hk:vh.kind≠.early)(cM:o.op=.call { callee:=.value (.func 69),args:=args,argTypes:=qv })
  (hx:args.map nN.eval=#[.pointer (ab ⟨ph.Mu,0,ak⟩)])
  (hK:∀k w,KX ph s (λ b=>WS b\/RS b) w0 w->BH an ph s fX F ⟨at_ .ur,k,WS,RS,G (vh.at (nN.put o.dst (.tuple #[])) (.inRegion jk mZ::Gv)) cs,w⟩) (k:Nat) (hF:KX ph s (λ b=>WS b\/RS b) w0 w):
  BH an ph s fX F ⟨at_ .ld,k,WS,RS,G (vh.at nN (.inRegion jk (C7::mZ)::Gv)) cs,w⟩:=by
 have zaP:nN.put o.dst (.tuple #[])=nN.put ((jk[C7]?).bind (·.dst)) (.tuple #[]):=by rw[ho];rfl
 refine zmI (Fi:=λ _ g w=>g=G (vh.at (nN.put o.dst (.tuple #[])) (.inRegion jk mZ::Gv)) cs/\KX ph s (λ b=>WS b\/RS b) w0 w) (λ k g w h=>?_) k (at_ .ld) 41 _ w (.inl rfl) ?_
 ·obtain⟨rfl,_⟩:=h w (gY.refl _ _)
  exact hK k w (h w (gY.refl _ _)).2
 ·refine CL rfl (λ aJ O8=>?_)
  have hF:=hF.rely O8
  rw[xK ho hw hk cM Tryz.func69 zng rfl]
  simp only[rz]
  refine⟨by u_nil,?_⟩
  rw[hx,enter_at _ Tryz.func69 rfl]
  refine zrS (w0:=w0) (λ k'=>⟨0,λ w hF=>λ aJ r=>?_⟩) k aJ hF
  cases k' with
  |zero=>trivial
  |succ k'=>exact⟨λ _=>⟨by rw[zaP],hF.rely r⟩,λ h=>by simp[we] at h⟩
theorem SZ{todo:List Item}{ds:List eH}(hd:nN.defers=dcall 70 #[.pointer (ab ⟨ph.Mu,0,ak⟩)]::ds)
  (hK:∀k w,KX ph s (λ b=>WS b\/RS b) w0 w->BH an ph s fX F ⟨at_ .wr,k,WS,RS,G { vh.at ⟨nN.tmps,ds⟩ todo with mode:=.returning } cs,w⟩) (k:Nat) (hF:KX ph s (λ b=>WS b\/RS b) w0 w):
  BH an ph s fX F ⟨at_ .ur,k,WS,RS,G { vh.at nN todo with mode:=.returning } cs,w⟩:=by
 have e:LB (at_ .ur)=at_ .ur:=rfl
 rw[<-e]
 refine zep (Fi:=λ _ g w=>g=G { vh.at ⟨nN.tmps,ds⟩ todo with mode:=.returning } cs/\KX ph s (λ b=>WS b\/RS b) w0 w) (λ k g w h=>?_) k (at_ .ur) 41 _ w (.inl rfl) ?_
 ·obtain⟨rfl,_⟩:=h w (gY.refl _ _)
  exact hK k w (h w (gY.refl _ _)).2
 ·refine CL rfl (λ aJ O8=>?_)
  have hF:=hF.rely O8
  rw[stepG_unwind_enter hd Tryz.func70 zeU rfl]
  simp only[rz]
  refine⟨by u_nil,?_⟩
  refine zkn (w0:=w0) rfl (λ k'=>⟨0,λ w hF=>λ aJ r=>?_⟩) k aJ hF
  cases k' with
  |zero=>trivial
  |succ k'=>exact⟨λ _=>⟨rfl,hF.rely r⟩,λ h=>by cases fX<;>simp[we] at h⟩
theorem ZP(htW:ph.tW=115){todo:List Item}{ds:List eH}{qt:Nat}(hd:nN.defers=dcall 68 #[.pointer (ab ⟨ph.Wg,0,ak⟩)]::ds)
  (hQ:nm an qt 0 (G { vh.at ⟨nN.tmps,ds⟩ todo with mode:=.returning } cs)) (hFs:∀w aJ,gY ph s (λ b=>WS b\/RS b) w aJ->F WS RS w->F WS RS aJ) (h0:F WS RS w) (k:Nat) (hF:KX ph s (λ b=>WS b\/RS b) w0 w):
  BH an ph s fX F ⟨at_ .wr,k,WS,RS,G { vh.at nN todo with mode:=.returning } cs,w⟩:=by
 refine zmH (m:=61) hFs h0 ?_
 refine CL rfl (λ aJ O8=>?_)
 have hF:=hF.rely O8
 rw[stepG_unwind_enter hd Tryz.func68 nm_done rfl]
 simp only[rz]
 exact⟨by u_nil,zrE (w0:=w0) htW rfl hQ aJ hF⟩
end
section
variable{N P:aG}{f:FuncId}{xs ys:Array aj}{w0 W:ai}{R0:BR}
theorem zsq{R:BR}{Q:Nat->Prop}{v v' u:aj}(h:VR (λ a b l=>a=b/\l=0/\Q a) v u)(k:VR R v v'):VR (λ a b l=>R a b l/\Q a) v v':=by
 have ar:∀{a a' b:cr},AR (λ a b l=>a=b/\l=0/\Q a) a b->AR R a a'->AR (λ a b l=>R a b l/\Q a) a a':=by
  rintro a a' b ⟨⟨l,⟨_,_,hq⟩,_⟩,_⟩ ⟨⟨m,r,e⟩,z⟩
  exact⟨⟨m,⟨r,hq⟩,e⟩,z⟩
 have oa:∀{a a' b:Option cr},OA (λ a b l=>a=b/\l=0/\Q a) a b->OA R a a'->OA (λ a b l=>R a b l/\Q a) a a'
  |none,ak,_,_,_=>trivial
  |some _,ab _,ab _,x,y=>ar x y
  |none,ab _,_,_,y=>y.elim
  |some _,ak,_,_,y=>y.elim
  |some _,ab _,ak,x,_=>x.elim
 have on:∀{a a' b:Option Nat},ON (λ a b l=>a=b/\l=0/\Q a) a b->ON R a a'->ON (λ a b l=>R a b l/\Q a) a a'
  |none,ak,_,_,_=>trivial
  |some _,ab _,ab _,⟨_,_,_,hq⟩,⟨m,r⟩=>⟨m,r,hq⟩
  |none,ab _,_,_,y=>y.elim
  |some _,ak,_,_,y=>y.elim
  |some _,ab _,ak,x,_=>x.elim
 induction k generalizing u with
 |bool b=>exact .bool b
 |int k n=>exact .int k n
 |string s=>exact .string s
 |pointer ha=>cases h with|pointer hb=>exact .pointer (oa hb ha)
 |slice l c ha=>cases h with|slice _ _ hb=>exact .slice l c (oa hb ha)
 |map ha=>cases h with|map hb=>exact .map (on hb ha)
 |chan ha=>cases h with|chan hb=>exact .chan (on hb ha)
 |@func f x x' y y' hx _ hy _ i1 i2=>
  cases h with
  |@func _ _ z _ z2 hx2 h2 hy2 h2'=>
   refine .func f hx (λ i v v' hv Js=>?_) hy (λ i v v' hv Js=>?_)
   ·have cj:i<x.size:=(ah.1 hv).1
    exact i1 i v v' hv Js (h2 i v _ hv (bj (by rw[<-hx2];exact cj)))
   ·have cj:i<y.size:=(ah.1 hv).1
    exact i2 i v v' hv Js (h2' i v _ hv (bj (by rw[<-hy2];exact cj)))
 |nilFunc=>exact .nilFunc
 |iface t _ i=>cases h with|iface _ hb=>exact .iface t (i hb)
 |nilIface=>exact .nilIface
 |@agg x x' hx _ i=>
  cases h with
  |@agg _ z hx2 h2=>
   refine .agg hx λ j v v' hv Js=>?_
   have cj:j<x.size:=(ah.1 hv).1
   exact i j v v' hv Js (h2 j v _ hv (bj (by rw[<-hx2];exact cj)))
 |@tuple x x' hx _ i=>
  cases h with
  |@tuple _ z hx2 h2=>
   refine .tuple hx λ j v v' hv Js=>?_
   have cj:j<x.size:=(ah.1 hv).1
   exact i j v v' hv Js (h2 j v _ hv (bj (by rw[<-hx2];exact cj)))
theorem zrs{R:BR}{Q:Nat->Prop}(h:AV (λ a b l=>a=b/\l=0/\Q a) xs xs)(k:AV R xs ys):AV (λ a b l=>R a b l/\Q a) xs ys:=
 ⟨k.size,λ i v v' hv Js=>zsq (h.at_ i v v hv hv) (k.at_ i v v' hv Js)⟩
theorem zrO{w2:ai}(he:zd5 w0 w2):HR (λ a b l=>a=b/\l=0/\wz w0 a) (VJ w0) w2:=by
 refine⟨λ a a' b b' l m h1 h2=>⟨λ e=>h1.1▸h2.1▸e,λ e=>.inl (by rw[h1.1,h2.1];exact e)⟩,λ a b l hr=>?_,JZ w0⟩
 obtain⟨rfl,rfl,c,e,f,h1⟩:=hr
 refine⟨_,_,xp h1,he.1 a _ h1,.cells (.inl ⟨rfl,rfl⟩) (PU c) (λ i v v' _ a b=>?_) (.inr λ i hi=>⟨Nat.zero_le _,hi⟩)⟩
 rw[(CF a).1] at b
 cases b
 exact G0 (CF a).2
theorem zhT{w2:ai}(he:zd5 w0 w2){a:Nat}(h:Fz w0 a):Fz w2 a:=by
 obtain⟨c,e,f,h1,h2⟩:=h
 exact⟨c,e,f,he.1 a _ h1,h2⟩
theorem ziv(g:PG N P)(gp:GP N)(hf:∃fn,N.funcs[f]?=ab fn/\fn.body.isSome=ae)(hR:HR R0 w0 W)(hx:AV R0 xs ys)(hfl:AV (λ a b l=>a=b/\l=0/\wz w0 a) xs xs)(WS:Nat->Prop):
  Gh N (aU N f xs .normal) w0 R0 WS (aU N f xs .normal) [] (VJ w0) (aU P f ys .normal) [] W (λ a b l=>R0 a b l/\wz w0 a):=by
 have cj:∀{a b l},R0 a b l->a<w0.heap.size:=λ r=>(hR.lt r).1
 refine⟨px g gp hf (zrs hfl hx),trivial,zrI hR,λ a b l r=>.inl ⟨r.1,cj r.1,Wu r.2⟩,by rw[ziu];exact aA _,λ w2 he=>?_⟩
 refine⟨_,[],w2,(λ a b l=>a=b/\l=0/\wz w0 a),R0,.nil,px g.self gp hf hfl,trivial,?_,λ a b l r=>.inl ⟨r.1,?_,Wu r.2.2⟩,px g gp hf hx,trivial,?_,λ a b l r=>.inl r,BR.le_refl _,λ _ _=>rfl,aA _⟩
 ·exact zrO he
 ·obtain⟨c,e,f,h⟩:=r.2.2
  exact(ah.1 h).1
 ·exact⟨λ a a' b b' l m r s=>⟨(hR.inj a a' b b' l m r s).1,λ e=>((hR.inj a a' b b' l m r s).2 e).imp id λ z=>⟨zhT he z.1,zhT he z.2⟩⟩,λ a b l r=>by obtain⟨o,o',q1,q2,q3⟩:=hR.obj a b l r;exact⟨o,o',he.1 a o q1,q2,q3⟩,he.2⟩
end
abbrev zmu:aB:=baseD 67
noncomputable def WM:Code:=Tryz.f67.body.getD .skip
noncomputable def zaI:aB:={ (default:aB) with fn:=an.funcs.size,defers:=[],mode:=.panicking [goexitEntry] }
def yV(ph:Ph)(D Sd:Nat):eH:={ target:=.fn (.func 67) #[.pointer (ab ⟨ph.Wg,0,ak⟩),.pointer (ab ⟨D,0,ak⟩),.pointer (ab ⟨ph.Mu,0,ak⟩),.pointer (ab ⟨ph.Bo,0,ak⟩),.pointer (ab ⟨Sd,0,ak⟩)],args:=#[] }
theorem uDr:(an.underlying 36).any TypeDesc.isRow=ae:=by kernel_rfl
theorem sDr:(an.info? 36).map (·.size)=ab 22:=by kernel_rfl
theorem zDr:((an.info? 36).bind (·.zero)).map (λ z=>z.cells.size)=ab 22:=by kernel_rfl
theorem zzL:(an.underlying 3).any (λ d=>!d.isRow)=ae:=by kernel_rfl
theorem zer(ph:Ph)(D Sd:Nat)(w:ai):bU an aa (born an (yV ph D Sd)) w =
  .go (G (zmu.at ⟨#[.pointer (ab ⟨ph.Wg,0,ak⟩),.pointer (ab ⟨D,0,ak⟩),.pointer (ab ⟨ph.Mu,0,ak⟩),.pointer (ab ⟨ph.Bo,0,ak⟩),.pointer (ab ⟨Sd,0,ak⟩),undef,undef,undef,undef,undef,undef,undef,undef,undef,undef,undef,undef,undef],[]⟩ [.code WM]) [zaI]) w #[]:=by
 simp[born,yV,bU,unwind,callDeferred,invoke,callFunc,Tryz.func67,Tryz.f67,seen,dE,G,aU,oC,zmu,baseD,zaI,WM]
theorem ze0(T:Array aj)(todo:List Item):nm an 2 0 (G { zmu.at ⟨T,[]⟩ todo with mode:=.returning } [zaI]):=by
 refine QuitsD.ctl (g':=G zaI []) rfl (λ w=>?_) ?_
 ·simp[G,bU,unwind,Hc,results,oC,zmu,baseD,zaI,Tryz.func67,Tryz.f67,seen,dE,goexitEntry]
 refine QuitsD.ctl (g':={ G zaI [] with status:=.finished }) rfl (λ w=>?_) ⟨rfl,rfl⟩
 simp[G,bU,unwind,zaI,goexitEntry,Frame.catches]
 rfl
theorem zdQ{R:BR}{v v':aj}(h:VR R v v'):pP v'=pP v:=by cases h<;>rfl
def LH(v:aj)(_:ai):Prop:=∃cs x y,v=.tuple #[.agg cs,x,y]/\cs.size=22/\cs.all pP=ae
theorem zir{R:BR}{v v':aj}{w:ai}(h:LH v w)(k:VR R v v'):LH v' w:=by
 obtain⟨cs,x,y,rfl,h1,h2⟩:=h
 cases k with
 |@tuple _ z hz hv=>
  have h3:z.size=3:=by simpa using hz.symm
  obtain⟨l⟩:=z
  match l,h3 with
  |[a,b,c],_=>
  have ha:=hv 0 (.agg cs) a rfl rfl
  cases ha with
  |@agg _ kT hc hcv=>
   refine⟨kT,b,c,rfl,hc▸h1,?_⟩
   rw[aT] at h2 ⊢
   intro u hu
   obtain⟨i,hi⟩:=dX.1 hu
   have cj:i<cs.size:=by rw[hc];exact(ah.1 hi).1
   have:=hcv i cs[i] u (bj cj) hi
   rw[zdQ this]
   exact h2 _ (Array.getElem_mem cj)
def FW(N:aG)(f0:aB)(w0:ai)(R0:BR)(ph:Ph)(s:Nat)(WS RS:Nat->Prop)(w:ai):Prop:=
 ∃csR x y WSg,(∀b,WSg b->WS b)/\(∀b,(∃a l,R0 a b l)->RS b)/\Gr N f0 w0 R0 WSg (.tuple #[.agg csR,x,y]) w/\(csR.size=22/\csR.all pP=ae)/\∃cs,Am ph w cs/\half ph s cs=csR
theorem WT{N:aG}{f0:aB}{w0:ai}{R0:BR}{ph:Ph}{s:Nat}{WS RS:Nat->Prop}{w aJ:ai}(r:gY ph s (λ b=>WS b\/RS b) w aJ)(h:FW N f0 w0 R0 ph s WS RS w):FW N f0 w0 R0 ph s WS RS aJ:=by
 obtain⟨csR,x,y,WSg,h1,h2,h3,h4,cs,h5,h6⟩:=h
 obtain⟨c1,h7,h8⟩:=r.bo cs h5
 exact⟨csR,x,y,WSg,h1,h2,h3.rely λ b hb=>r.blk b (hb.elim (λ z=>.inl (h1 b z)) λ z=>.inr (h2 b z)),h4,c1,h7,h8.trans h6⟩
section
variable{ph:Ph}{s:Nat}{fX:Bool}{F:(Nat->Prop)->(Nat->Prop)->ai->Prop}{WS RS:Nat->Prop}{T:Th}{k:Nat}{w:ai}
variable{b:aB}{a:Act}{ops:Array Oper}{i:Nat}{rest:List Nat}{kk:List Item}{cs:List aB}{o:Oper}
theorem zzB{s:Nat}(h:s<2)(n:Nat):s*n=0\/s*n=n:=by
 have:s=0\/s=1:=by omega
 rcases this with rfl|rfl<;>simp
theorem zuV{s:Nat}(h:s<2):s=0\/s=1:=by omega
theorem any_some{α:Type}{x:Option α}{p:α->Bool}(h:x.any p=ae):∃d,x=ab d/\p d=ae:=by
 cases x with
 |none=>cases h
 |some d=>exact⟨d,rfl,h⟩
variable{t:au}{x:bp}{r off n:Nat}
theorem zde{d:ia}{c:Array aj}{e:au}{f:Nat×Nat}(hm:T.mute=aa)(ho:ops[i]?=ab o)(hw:aR o (yielded ops a.tmps)=ae)(hk:b.kind≠.early)(cM:o.op=.load t x)
  (hx:a.eval x=.pointer (ab ⟨r,off,ak⟩)) (hr:WS r\/RS r) (h:w.heap[r]?=ab (.cells c e f)) (hu:an.underlying t=ab d) (hd:d.isRow=ae) (hs:(an.info? t).map (·.size)=ab n) (hn:off+n<=c.size)
  (hK:∀aJ,gY ph s (λ b=>WS b\/RS b) w aJ->BH an ph s fX F ⟨T,k,WS,RS,G (b.at (a.put o.dst (.agg (c.extract off (off+n)))) (.inRegion ops rest::kk)) cs,aJ⟩):
  BH an ph s fX F ⟨T,k,WS,RS,G (b.at a (.inRegion ops (i::rest)::kk)) cs,w⟩:=by
 refine ox (λ _=>rfl) λ aJ bA=>?_
 obtain⟨es,e1,e2⟩:=Vs (main:=aa) (rest:=rest) (kk:=kk) (cs:=cs) ho hw hk cM hx ((bA.blk r hr).trans h) hu hd hs hn
 exact .AM _ _ _ _ _ (Hr hr e1 e2) (lQ e2) (λ z=>by rw[hm] at z;cases z) (hK aJ bA)
theorem zid{d:ia}{v:aj}(hm:T.mute=aa)(ho:ops[i]?=ab o)(hw:aR o (yielded ops a.tmps)=ae)(hk:b.kind≠.early)(cM:o.op=.load t x)
  (hx:a.eval x=.pointer (ab ⟨r,off,ak⟩)) (hr:WS r\/RS r) (h:w.cell? ⟨r,off,ak⟩=ab v) (hu:an.underlying t=ab d) (hd:d.isRow=aa)
  (hK:∀aJ,gY ph s (λ b=>WS b\/RS b) w aJ->BH an ph s fX F ⟨T,k,WS,RS,G (b.at (a.put o.dst v) (.inRegion ops rest::kk)) cs,aJ⟩):
  BH an ph s fX F ⟨T,k,WS,RS,G (b.at a (.inRegion ops (i::rest)::kk)) cs,w⟩:=by
 refine ox (λ _=>rfl) λ aJ bA=>?_
 have h1:aJ.cell? ⟨r,off,ak⟩=ab v:=by
  rw[<-h]
  simp only[World.cell?,bA.blk r hr]
 obtain⟨es,e1,e2⟩:=zcd (main:=aa) (rest:=rest) (kk:=kk) (cs:=cs) ho hw hk cM hx h1 hu hd
 exact .AM _ _ _ _ _ (Hr hr e1 e2) (lQ e2) (λ z=>by rw[hm] at z;cases z) (hK aJ bA)
theorem zia{inf:lx}{z:aj}(hm:T.mute=aa)(hl:Lv ph w)(ho:ops[i]?=ab o)(hw:aR o (yielded ops a.tmps)=ae)(hk:b.kind≠.early)(cM:o.op=.alloc t)(hi:an.info? t=ab inf)(hz:inf.zero=ab z)
  (hK:∀aJ w' n,gY ph s (λ b=>WS b\/RS b) w aJ->n=aJ.heap.size->w'={ aJ with heap:=aJ.heap.push (.cells z.cells t) }->BH an ph s fX F ⟨T,k,λ b=>WS b\/b=n,RS,G (b.at (a.put o.dst (.pointer (ab ⟨n,0,ak⟩))) (.inRegion ops rest::kk)) cs,w'⟩):
  BH an ph s fX F ⟨T,k,WS,RS,G (b.at a (.inRegion ops (i::rest)::kk)) cs,w⟩:=by
 refine ox (λ _=>rfl) λ aJ bA=>?_
 have e1:=Fv (P:=an) (main:=aa) (rest:=rest) (kk:=kk) (cs:=cs) (w:=aJ) ho hw hk cM hi hz
 exact .AM _ _ _ _ _ (znC (hl.rely bA) e1) (λ e he=>by simp at he) (λ z=>by rw[hm] at z;cases z) (hK aJ _ _ bA rfl rfl)
theorem zie{y:bp}{c vs:Array aj}{e:au}(hm:T.mute=aa)(ho:ops[i]?=ab o)(hw:aR o (yielded ops a.tmps)=ae)(hk:b.kind≠.early)(cM:o.op=.store t x y)
  (hx:a.eval x=.pointer (ab ⟨r,off,ak⟩)) (hy:a.eval y=.agg vs) (hr:WS r) (DC:¬ph.sh r) (h:w.heap[r]?=ab (.cells c e)) (hs:(an.info? t).map (·.size)=ab n) (hv:vs.size=n) (hn:off+n<=c.size) (h1:vs.all pP=ae)
  (hK:∀aJ w',gY ph s (λ b=>WS b\/RS b) w aJ->w'.heap[r]?=ab (.cells (c.extract 0 off++vs++c.extract (off+n) c.size) e)->(∀k,k≠r->w'.heap[k]?=aJ.heap[k]?)->BH an ph s fX F ⟨T,k,WS,RS,G (b.at (a.put o.dst undef) (.inRegion ops rest::kk)) cs,w'⟩):
  BH an ph s fX F ⟨T,k,WS,RS,G (b.at a (.inRegion ops (i::rest)::kk)) cs,w⟩:=by
 refine ox (λ _=>rfl) λ aJ bA=>?_
 obtain⟨w',es,e1,e2,e3,e4,e5,e6,e7,e8,_⟩:=Fw (main:=aa) (rest:=rest) (kk:=kk) (cs:=cs) ho hw hk cM hx hy ((bA.blk r (.inl hr)).trans h) hs hv hn h1
 exact .AM _ _ _ _ _ (Ka hr DC e1 e2 e4 e5 e6 e7 e8) (lQ e2) (λ z=>by rw[hm] at z;cases z) (hK aJ w' bA e3 e4)
theorem zvt{y:bp}{vs:Array aj}(hm:T.mute=aa)(hl:Lv ph w)(h2:s<2)(hd:ph.d=n)(ho:ops[i]?=ab o)(hw:aR o (yielded ops a.tmps)=ae)(hk:b.kind≠.early)(cM:o.op=.store t x y)
  (hx:a.eval x=.pointer (ab ⟨ph.Bo,s*n,ak⟩)) (hy:a.eval y=.agg vs) (hs:(an.info? t).map (·.size)=ab n) (hv:vs.size=n) (h1:vs.all pP=ae)
  (hK:∀aJ w' kT,gY ph s (λ b=>WS b\/RS b) w aJ->Am ph w' kT->half ph s kT=vs->(∀k,k≠ph.Bo->w'.heap[k]?=aJ.heap[k]?)->BH an ph s fX F ⟨T,k,WS,RS,G (b.at (a.put o.dst undef) (.inRegion ops rest::kk)) cs,w'⟩):
  BH an ph s fX F ⟨T,k,WS,RS,G (b.at a (.inRegion ops (i::rest)::kk)) cs,w⟩:=by
 refine ox (λ _=>rfl) λ aJ bA=>?_
 obtain⟨c,hc⟩:=(hl.rely bA).bo
 have hcs:c.size=2*n:=hd▸hc.2
 have hm2:=zzB h2 n
 have hn:s*n+n<=c.size:=by omega
 obtain⟨w',es,e1,e2,e3,e4,e5,e6,e7,e8,_⟩:=Fw (main:=aa) (rest:=rest) (kk:=kk) (cs:=cs) ho hw hk cM hx hy hc.1 hs hv hn h1
 have hb:Am ph w' (c.extract 0 (s*n)++vs++c.extract (s*n+n) c.size):=by
  refine⟨e3,?_⟩
  simp only[vS,Array.size_extract,hv,hd,hcs]
  omega
 exact .AM _ _ _ _ _ (zr8 h2 hd hc hv e1 e2 e3 e4 e5 e6 e7 e8) (lQ e2) (λ z=>by rw[hm] at z;cases z) (hK aJ w' _ bA hb (ziA ph hd hcs hv h2) e4)
theorem zib{f:FuncId}{fn:Func}{args:Array bp}{qv:Array au}(hm:T.mute=aa)(ho:ops[i]?=ab o)(hw:aR o (yielded ops a.tmps)=ae)(hk:b.kind≠.early)(cM:o.op=.call { callee:=.value (.func f),args,argTypes:=qv })
  (hf:an.funcs[f]?=ab fn) (zcY:(fn.name == "runtime.NumGoroutine")=aa) (hb:fn.body.isNone=aa)
  (hK:∀aJ,gY ph s (λ b=>WS b\/RS b) w aJ->BH an ph s fX F ⟨T,k,WS,RS,G (aU an f (args.map a.eval) .normal) (b.at a (.inRegion ops (i::rest)::kk)::cs),aJ⟩):
  BH an ph s fX F ⟨T,k,WS,RS,G (b.at a (.inRegion ops (i::rest)::kk)) cs,w⟩:=by
 refine ox (λ _=>rfl) λ aJ bA=>?_
 have e1:=xK (P:=an) (main:=aa) (rest:=rest) (kk:=kk) (cs:=cs) (w:=aJ) ho hw hk cM hf zcY hb
 exact .AM _ _ _ _ _ (zgU _ aJ _ RS e1) (λ e he=>by simp at he) (λ _=>⟨rfl,rfl,rfl,rfl⟩) (hK aJ bA)
end
section
variable{N:aG}{f0:aB}{w0 W W₁:ai}{R0:BR}{WS:Nat->Prop}
theorem Gr.zpb{v':aj}(h:Gr N f0 w0 R0 WS v' W)(hb:∀b,b<W.heap.size->(WS b\/∃a l,R0 a b l)->W₁.heap[b]?=W.heap[b]?):Gr N f0 w0 R0 WS v' W₁:=
 ⟨λ w2 he=>by
  obtain⟨v2,AJ,R2,k1,k2,k3,k4,k5,k6,k7⟩:=h.ext w2 he
  exact⟨v2,AJ,R2,k1,k2,k3.right λ a b l r=>hb b (k3.lt r).2 ((k4 a b l r).elim (λ z=>.inr ⟨a,l,z⟩) λ z=>.inl z.2),k4,k5,k6,k7⟩⟩
end
section
variable{ph:Ph}{s:Nat}{fX:Bool}{F:(Nat->Prop)->(Nat->Prop)->ai->Prop}{WS RS:Nat->Prop}{T:Th}{k:Nat}{w:ai}
variable{b:aB}{a:Act}{ops:Array Oper}{i:Nat}{rest:List Nat}{kk:List Item}{cs:List aB}{o:Oper}
theorem zmJ{v:aj}(ho:ops[i]?=ab o)(hw:aR o (yielded ops a.tmps)=ae)(hk:b.kind≠.early)(h:∀w,(bd a.eval o).run an w=.ok (.value v) w)(he:∀w,(bd a.eval o).events an w #[]=#[])
  (hK:∀aJ,gY ph s (λ b=>WS b\/RS b) w aJ->BH an ph s fX F ⟨T,k,WS,RS,G (b.at (a.put o.dst v) (.inRegion ops rest::kk)) cs,aJ⟩):
  BH an ph s fX F ⟨T,k,WS,RS,G (b.at a (.inRegion ops (i::rest)::kk)) cs,w⟩:=by
 refine ox (λ _=>rfl) λ aJ bA=>?_
 have e1:=tX (P:=an) (main:=aa) (rest:=rest) (kk:=kk) (cs:=cs) (w:=aJ) (w':=aJ) (es:=#[]) ho hw hk (by rw[Sem.runT_eq,h,he])
 rw[xI] at e1
 exact .AM _ _ _ _ _ (zgU _ aJ _ RS e1) (λ e he=>by simp at he) (λ _=>⟨rfl,rfl,rfl,rfl⟩) (hK aJ bA)
end
section
variable{N:aG}{ph:Ph}{s:Nat}{fX:Bool}{w0 W:ai}{R0:BR}{RS:Nat->Prop}{D Sd:Nat}{csG csR:Array aj}
theorem VB(g:PG N an)(gp:GP N)(ok:ph.Ok)(hd:ph.d=22)(htW:ph.tW=115)(hs:s<2)(hf:∃fn,N.funcs[17]?=ab fn/\fn.body.isSome=ae)
  (hT:Tree N (λ _ _ _=>False) LH (aU N 17 #[.agg csG] .normal) [] (VJ w0)) (hR:HR R0 w0 W) (hx:AV R0 csG csR) (hfl:AV (λ a b l=>a=b/\l=0/\wz w0 a) csG csG) (hsz:csR.size=22)
  {eD:au} {fD:Nat×Nat} (hD:W.heap[D]?=ab (.cells csR eD fD)) (hSd:W.cell? ⟨Sd,0,ak⟩=ab (.int .i64 s)) (hRS:∀b,(∃a l,R0 a b l)->RS b) (hRD:RS D) (zeg:RS Sd) (DC:∀b,RS b->¬ph.sh b) (hl:Lv ph W) (k:Nat):
  BH an ph s fX (FW N (aU N 17 #[.agg csG] .normal) w0 R0 ph s) ⟨at_ .ld,k,λ _=>False,RS,born an (yV ph D Sd),W⟩:=by
 obtain⟨dD,huD,hrD⟩:=any_some uDr
 obtain⟨d3,hu3,hr3⟩:=any_some zzL
 have hr3:d3.isRow=aa:=by simpa using hr3
 obtain⟨z,Sw,OE⟩:=aN.1 zDr
 obtain⟨inf,hi,hz⟩:=cP.1 Sw
 refine ox (λ _=>rfl) λ aJ bA=>?_
 refine .AM _ _ _ _ _ (zgU _ aJ _ RS (zer ph D Sd aJ)) (λ e he=>by simp at he) (λ _=>⟨rfl,rfl,rfl,rfl⟩) ?_
 have hF:KX ph s (λ b=>False\/RS b) aJ aJ:=⟨ok,λ b hb=>DC b (hb.resolve_left id),.refl _ _,hl.rely bA⟩
 refine mY (m:=30) ?_ (λ g w h=>h w (gY.refl _ _))
 simp only[WM,Tryz.f67,cS]
 repeat w_go KX.rely
 u_defer KX.rely hF
 repeat w_go KX.rely
 refine bn (λ ed er=>?_)
 replace hF:=hF.rely er
 have hD2:=((hF.r.blk D (.inr hRD)).trans (bA.blk D (.inr hRD))).trans hD
 refine zde rfl rfl rfl (by k_ne) rfl rfl (.inr hRD) hD2 huD hrD sDr (by omega) λ fY eR=>?_
 replace hF:=hF.rely eR
 walk_nrm
 refine zib rfl rfl rfl (by k_ne) rfl Tryz.func17 zvT gK λ sE zaY=>?_
 replace hF:=hF.rely zaY
 have hex:csR.extract 0 (0+22)=csR:=by
  apply fj
  simp only[cD,bI,fL,jH,fQ]
  exact bq (by simp[hsz])
 walk_nrm
 rw[hex]
 have zoT:∀{u:ai},u.cell? ⟨Sd,0,ak⟩=ab (.int .i64 s)->Sd<u.heap.size:=by
  intro u hu
  rcases l5 Sd u.heap.size with h|h
  ·exact h
  ·simp[World.cell?,Array.getElem?_eq_none h] at hu
 have Wn:∀{u u':ai},u'.heap[Sd]?=u.heap[Sd]?->u'.cell? ⟨Sd,0,ak⟩=u.cell? ⟨Sd,0,ak⟩:=by
  intro u u' e
  simp only[World.cell?,e]
 have hS4:sE.cell? ⟨Sd,0,ak⟩=ab (.int .i64 s):=(Wn ((hF.r.blk Sd (.inr zeg)).trans (bA.blk Sd (.inr zeg)))).trans hSd
 have hR4:HR R0 w0 sE:=hR.right λ a b l r=>(hF.r.blk b (.inr (hRS b ⟨a,l,r⟩))).trans (bA.blk b (.inr (hRS b ⟨a,l,r⟩)))
 refine zic g gp hT (L':=[]) (ziv g gp hf hR4 (AV.one (.agg hx.size hx.at_)) (AV.one (.agg hfl.size hfl.at_)) (λ _=>False)) hRS hF.l (λ b _ z=>z) ?_
 intro v w1 v' ot W' R' q1 q2 _ q4 q5 q7 q6
 clear hF
 obtain⟨OY,x,y,rfl,hO,hO1⟩:=zir q1 q2
 rw[Frame.finish_at]
 walk_nrm
 have hF:KX ph s (λ b=>ot b\/RS b) W' W':=⟨ok,λ b hb=>hb.elim (λ h hs=>q4 b hs h) (DC b),.refl _ _,q5⟩
 refine mY (m:=30) ?_ (λ g w h=>h w (gY.refl _ _))
 repeat w_go KX.rely
 refine bn (λ lS Yv=>?_)
 replace hF:=hF.rely Yv
 refine zia rfl hF.l rfl rfl (by k_ne) rfl hi hz λ GF zvr n0 zgS hn0 hw7=>?_
 walk_nrm
 have hn:zvr.heap[n0]?=ab (.cells z.cells 36):=by rw[hw7,hn0];simp
 have hl7:Lv ph zvr:=hw7▸zhX (hF.l.rely zgS)
 have zq5:¬ph.sh n0:=λ h=>by have:=(hF.l.rely zgS).lt h;omega
 refine zie rfl rfl rfl (by k_ne) rfl rfl rfl (.inr rfl) zq5 hn sDr hO (by omega) hO1 λ zD6 Yy zrl h9 h9'=>?_
 walk_nrm
 have hl9:Lv ph Yy:=(hl7.rely zrl).same λ b hb=>h9' b λ e=>zq5 (e▸hb)
 have zq2:∀b,b<W'.heap.size->(ot b\/RS b)->Yy.heap[b]?=W'.heap[b]?:=by
  intro b hb dz
  have zD3:=(hF.rely zgS).r.size
  have fh:b≠n0:=by omega
  rw[h9' b fh,zrl.blk b (dz.imp .inl id),hw7]
  show (GF.heap.push _)[b]?=_
  rw[bJ,if_neg (by omega)]
  exact(hF.rely zgS).r.blk b dz
 have hGr:Gr N (aU N 17 #[.agg csG] .normal) w0 R0 ot (.tuple #[.agg OY,x,y]) Yy:=q6.zpb λ b hb dz=>zq2 b hb (dz.imp id (hRS b))
 have hS':W'.cell? ⟨Sd,0,ak⟩=ab (.int .i64 s):=(Wn (q7 Sd zeg (zoT hS4) (λ z=>z))).trans hS4
 have hS9:Yy.cell? ⟨Sd,0,ak⟩=ab (.int .i64 s):=(Wn (zq2 Sd (zoT hS') (.inr zeg))).trans hS'
 clear zq2 hF Yv zgS zrl q6 q7 hn0 hw7 hn hl7 hex hD2 hR4
 have hF:KX ph s (λ b=>(ot b\/b=n0)\/RS b) Yy Yy:=⟨ok,λ b hb=>by
  rcases hb with(h|rfl)|h
  ·exact λ hs=>q4 b hs h
  ·exact zq5
  ·exact DC b h,.refl _ _,hl9⟩
 refine mY (m:=30) ?_ (λ g w h=>h w (gY.refl _ _))
 repeat w_go KX.rely
 refine bn (λ zw6 znv=>?_)
 refine Xl (w0:=Yy) rfl rfl (by k_ne) rfl (by simp[bX]) (λ k w hF=>?_) k (hF.rely znv)
 walk_nrm
 refine mY (m:=30) ?_ (λ g w h=>h w (gY.refl _ _))
 repeat w_go KX.rely
 u_defer KX.rely hF
 repeat w_go KX.rely
 refine bn (λ w znw=>?_)
 replace hF:=hF.rely znw
 refine zid rfl rfl rfl (by k_ne) rfl rfl (.inr zeg) ((Wn (hF.r.blk Sd (.inr zeg))).trans hS9) hu3 hr3 λ w znx=>?_
 replace hF:=hF.rely znx
 walk_nrm
 have h5:w.heap[n0]?=ab (.cells (z.cells.extract 0 0++OY++z.cells.extract (0+22) z.cells.size) 36):=(hF.r.blk n0 (.inl (.inr rfl))).trans h9
 refine zde rfl rfl rfl (by k_ne) rfl rfl (.inl (.inr rfl)) h5 huD hrD sDr (by simp[hO,OE]) λ w zny=>?_
 replace hF:=hF.rely zny
 have zy8:(z.cells.extract 0 0++OY++z.cells.extract (0+22) z.cells.size).extract 0 (0+22)=OY:=by
  apply fj
  simp only[cD,dw,bI,fL,jH,fQ,nL,ju]
  exact oQ (by simp[hO])
 rw[zy8]
 walk_nrm
 refine zmJ (v:=.pointer (ab ⟨ph.Bo,s*22,ak⟩)) rfl rfl (by k_ne) (λ w=>?_) (λ w=>?_) λ w znz=>?_
 ·have h2:=zuV hs
  rcases h2 with h2|h2<;>rw[h2]<;>(unfold bd;simp[go_sem,bX])
 ·have h2:=zuV hs
  rcases h2 with h2|h2<;>rw[h2]<;>(unfold bd;simp[go_sem,bX,iP,bZ])
 replace hF:=hF.rely znz
 walk_nrm
 refine zvt rfl hF.l hs hd rfl rfl (by k_ne) rfl rfl rfl sDr hO hO1 λ w w' kT zdF sS kU xc=>?_
 have hl':Lv ph w':=by
  have h0:=(hF.rely zdF).l
  refine⟨?_,?_,⟨kT,sS⟩⟩
  ·obtain⟨x,y,h⟩:=h0.mu;exact⟨x,y,(xc _ ok.mb).trans h⟩
  ·obtain⟨x,y,h⟩:=h0.wg;exact⟨x,y,(xc _ ok.wb).trans h⟩
 have hF0:=(hF.rely zdF)
 have me:∀b,((ot b\/b=n0)\/RS b)->w'.heap[b]?=Yy.heap[b]?:=λ b hb=>(xc b λ e=>hF0.st b hb (.inr (.inr e))).trans (hF0.r.blk b hb)
 have hFW:FW N (aU N 17 #[.agg csG] .normal) w0 R0 ph s (λ b=>ot b\/b=n0) RS w':=
  ⟨OY,x,y,ot,λ b h=>.inl h,hRS,hGr.zpb λ b _ hb=>me b (hb.elim (λ h=>.inl (.inl h)) λ h=>.inr (hRS b h)),⟨hO,hO1⟩,kT,sS,kU⟩
 have hFx:KX ph s (λ b=>(ot b\/b=n0)\/RS b) w' w':=⟨ok,hF0.st,.refl _ _,hl'⟩
 clear hF0 hF
 have hF:=hFx
 walk_nrm
 refine mY (m:=30) ?_ (λ g w h=>h w (gY.refl _ _))
 repeat w_go KX.rely
 refine bn (λ zw7 znA=>?_)
 refine SZ (w0:=w') rfl (λ k w hF=>?_) k (hF.rely znA)
 exact ZP htW rfl (ze0 _ _) (λ w aJ r h=>WT r h) (WT hF.r hFW) k hF
end
end Rn
namespace Rn
open Go Go.Conc Go.ConcM
open Go.ConcR (KK WgAt stA smA rd wr mk DC0)
inductive MT where
 |st|ad (i:Nat)|go (i:Nat)|w1|w2 (v:Nat)|w3|w4|aq|fin (kr jb:Array aj)
structure Nm where
 T:MT
 k:Nat
 d:Nat
 WS:Nat->Prop
 RS:Nat->Prop
 XS:Nat->Prop
 g:aI
 w:ai
def Nm.St(x:Nm)(b:Nat):Prop:=(x.WS b\/x.RS b)\/x.XS b
def Yj:Nat->Prop:=λ _=>False
def Jy(ph:Ph)(x:Nm)(aJ:ai):Prop:=gY ph 2 x.St x.w aJ/\(x.T=.st->aJ.heap.size=x.w.heap.size)
section
variable(P:aG)(ph:Ph)(F:Nat->(Nat->Prop)->(Nat->Prop)->ai->Prop)(cF:aB)(csF:List aB)
structure VZ(ex:Nat->Prop)(WS RS:Nat->Prop)(g:aI)(aJ:ai)(g':aI)(w':ai)(es:Array bT):Prop where
 st:bU P ae g aJ=.go g' w' es
 size:w'.heap.size=aJ.heap.size
 blk:∀b,¬ex b->w'.heap[b]?=aJ.heap[b]?
 os:pS aJ.os w'.os
 tape:w'.tape=aJ.tape
 output:w'.output=aJ.output
 ev:∀e∈es,tE ph 2 ae WS RS e
inductive zd6(x:Nm)(aJ:ai)(B:Nm->Prop):Prop
 |deep (h:x.k=0)
 |AM (ot:Nat->Prop) (g':aI) (w':ai) (es:Array bT) (h:Sil P ph 2 ae x.WS x.RS x.g aJ ot g' w' es []) (dz:x.T=.st->es=#[]) (hB:B { x with WS:=ot,g:=g',w:=w',d:=cG x.d es })
 |est (hT:x.T=.st) (hd:x.d=0) (ot:Nat->Prop) (g':aI) (w':ai) (h:Sil P ph 2 ae x.WS x.RS x.g aJ ot g' w' #[] []) (h1:MuAt ph.tM ph.Mu w' 0 0) (h2:WgAt ph.tW ph.Wg w' 0 0) (h3:∃cs,Am ph w' cs)
   (hB:B ⟨.ad 0,x.k,0,ot,x.RS,Yj,g',w'⟩)
 |ad (i:Nat) (hT:x.T=.ad i) (h:∀v:Nat,v<=1->WgAt ph.tW ph.Wg aJ ((v:Int)*KK) 0->∃g' w' es,VZ P ph (λ b=>b=ph.Wg) x.WS x.RS x.g aJ g' w' es/\WgAt ph.tW ph.Wg w' (((v+1:Nat):Int)*KK) 0/\B { x with T:=.go i,g:=g',w:=w',d:=cG x.d es })
 |go (i:Nat) (hT:x.T=.go i) (hi:i<2) (hd:x.d=0) (g' child:aI) (RSc ot:Nat->Prop) (h:bU P ae x.g aJ=.spawn g' child aJ #[]) (hr:child.status=.running) (h1:∀b,RSc b->x.WS b\/x.RS b) (h2:∀b,ot b->x.WS b/\¬RSc b)
   (hc:∀kc,BH P ph i (i == 0) (F i) ⟨at_ .ld,kc,Yj,RSc,child,aJ⟩) (hB:B { x with T:=if i=0 then .ad 1 else .w1,g:=g',w:=aJ,WS:=ot })
 |w1 (hT:x.T=.w1) (h:∀v:Nat,v<=2->WgAt ph.tW ph.Wg aJ ((v:Int)*KK) 0->∃g' es,VZ P ph (λ _=>False) x.WS x.RS x.g aJ g' aJ es/\B { x with T:=if v=0 then .aq else .w2 v,g:=g',w:=aJ,d:=cG x.d es })
 |w2 (v:Nat) (hT:x.T=.w2 v) (h:∀u:Nat,u<=2->WgAt ph.tW ph.Wg aJ ((u:Int)*KK) 0->
   (u=v->∃g' w' es,VZ P ph (λ b=>b=ph.Wg) x.WS x.RS x.g aJ g' w' es/\WgAt ph.tW ph.Wg w' ((u:Int)*KK+1) 0/\B { x with T:=.w3,g:=g',w:=w',d:=cG x.d es })/\
   (u≠v->∃g' es,VZ P ph (λ _=>False) x.WS x.RS x.g aJ g' aJ es/\B { x with T:=.w1,k:=x.k-1,g:=g',w:=aJ,d:=cG x.d es }))
 |w3 (hT:x.T=.w3) (ho:x.g.offers=ak) (h1:(∃v,WgAt ph.tW ph.Wg aJ v 0)->bU P ae x.g aJ=.go { x.g with status:=.blocked } aJ #[])
   (h2:WgAt ph.tW ph.Wg aJ 0 1->∃g' w' es,VZ P ph (λ b=>b=ph.Wg) x.WS x.RS x.g aJ g' w' es/\WgAt ph.tW ph.Wg w' 0 0/\B { x with T:=.w4,g:=g',w:=w',d:=cG x.d es })
 |w4 (hT:x.T=.w4) (h:WgAt ph.tW ph.Wg aJ 0 0->∃g' es,VZ P ph (λ _=>False) x.WS x.RS x.g aJ g' aJ es/\B { x with T:=.aq,g:=g',w:=aJ,d:=cG x.d es })
 |aq (hT:x.T=.aq) (hd:x.d=0) (g':aI) (h:bU P ae x.g aJ=.go g' aJ #[mk (.acquire (stA ph.Wg))])
   (hx:∀kr jb:Array aj,kr.size=ph.d->jb.size=ph.d->(kr++jb).all pP=ae->Am ph aJ (kr++jb)->B { x with T:=.fin kr jb,RS:=λ b=>b=ph.Bo,g:=g',w:=aJ })
 |fin (kr jb:Array aj) (hT:x.T=.fin kr jb) (hd:x.d=0) (h:x.g=G (cF.finish (.agg (kr++jb))) csF)
def BhM:Rk->Nm->Prop
 |.nd _ f,x=>(x.k≠0->x.g.status=.running)/\∀aJ,Jy ph x aJ->zd6 P ph F cF csF x aJ λ y=>∃i,BhM (f i) y
def sR(x:Nm):Prop:=∃r,BhM P ph F cF csF r x
end
section
variable{P:aG}{ph:Ph}{F:Nat->(Nat->Prop)->(Nat->Prop)->ai->Prop}{cF:aB}{csF:List aB}
variable{x:Nm}
theorem zd6.mono{aJ:ai}{B B':Nm->Prop}(hB:∀y,B y->B' y)(h:zd6 P ph F cF csF x aJ B):zd6 P ph F cF csF x aJ B':=by
 cases h with
 |deep h=>exact .deep h
 |AM ot g' w' es h dz hb=>exact .AM ot g' w' es h dz (hB _ hb)
 |est hT hd ot g' w' h h1 h2 h3 hb=>exact .est hT hd ot g' w' h h1 h2 h3 (hB _ hb)
 |ad i hT h=>
  refine .ad i hT λ v h1 h2=>?_
  obtain⟨g',w',es,a1,a2,a3⟩:=h v h1 h2
  exact⟨g',w',es,a1,a2,hB _ a3⟩
 |go i hT hi hd g' child RSc ot h hr h1 h2 hc hb=>exact .go i hT hi hd g' child RSc ot h hr h1 h2 hc (hB _ hb)
 |w1 hT h=>
  refine .w1 hT λ v h1 h2=>?_
  obtain⟨g',es,a1,a2⟩:=h v h1 h2
  exact⟨g',es,a1,hB _ a2⟩
 |w2 v hT h=>
  refine .w2 v hT λ u h1 h2=>⟨λ e=>?_,λ e=>?_⟩
  ·obtain⟨g',w',es,a1,a2,a3⟩:=(h u h1 h2).1 e
   exact⟨g',w',es,a1,a2,hB _ a3⟩
  ·obtain⟨g',es,a1,a2⟩:=(h u h1 h2).2 e
   exact⟨g',es,a1,hB _ a2⟩
 |w3 hT ho h1 h2=>
  refine .w3 hT ho h1 λ e=>?_
  obtain⟨g',w',es,a1,a2,a3⟩:=h2 e
  exact⟨g',w',es,a1,a2,hB _ a3⟩
 |w4 hT h=>
  refine .w4 hT λ e=>?_
  obtain⟨g',es,a1,a2⟩:=h e
  exact⟨g',es,a1,hB _ a2⟩
 |aq hT hd g' h hx=>exact .aq hT hd g' h λ a b h1 h2 h3 h4=>hB _ (hx a b h1 h2 h3 h4)
 |fin a b hT hd h=>exact .fin a b hT hd h
theorem iA(h0:x.k≠0->x.g.status=.running)(h:∀aJ,Jy ph x aJ->zd6 P ph F cF csF x aJ (sR P ph F cF csF)):sR P ph F cF csF x:=by
 refine⟨.nd { y:Nm // sR P ph F cF csF y } λ y=>dk y.2,?_⟩
 exact⟨h0,λ aJ hw=>(h aJ hw).mono λ y hy=>⟨⟨y,hy⟩,ep hy⟩⟩
theorem rR{r:Rk}(h:BhM P ph F cF csF r x):(x.k≠0->x.g.status=.running)/\∀aJ,Jy ph x aJ->zd6 P ph F cF csF x aJ λ y=>∃r',Rk.lt r' r/\BhM P ph F cF csF r' y:=by
 cases r with
 |nd ι f=>
  refine⟨h.1,λ aJ hw=>(h.2 aJ hw).mono ?_⟩
  rintro y ⟨i,hi⟩
  exact⟨f i,Rk.zo7 f i,hi⟩
theorem Jy.refl(x:Nm):Jy ph x x.w:=⟨gY.refl _ _,λ _=>rfl⟩
theorem Jy.trans{x:Nm}{aJ ed:ai}(h:Jy ph x aJ)(k:Jy ph { x with w:=aJ } ed):Jy ph x ed:=⟨h.1.trans k.1,λ e=>(k.2 e).trans (h.2 e)⟩
theorem PD{r:Rk}{aJ:ai}(h:BhM P ph F cF csF r x)(k:Jy ph x aJ):BhM P ph F cF csF r { x with w:=aJ }:=by
 cases r with
 |nd ι f=>
  refine⟨h.1,λ ed hw=>?_⟩
  have:=h.2 ed (k.trans hw)
  cases this with
  |deep h=>exact .deep h
  |AM ot g' w' es h dz hb=>exact .AM ot g' w' es h dz hb
  |est hT hd ot g' w' h h1 h2 h3 hb=>exact .est hT hd ot g' w' h h1 h2 h3 hb
  |ad i hT h=>exact .ad i hT h
  |go i hT hi hd g' child RSc ot h hr h1 h2 hc hb=>exact .go i hT hi hd g' child RSc ot h hr h1 h2 hc hb
  |w1 hT h=>exact .w1 hT h
  |w2 v hT h=>exact .w2 v hT h
  |w3 hT ho h1 h2=>exact .w3 hT ho h1 h2
  |w4 hT h=>exact .w4 hT h
  |aq hT hd g' h hx=>exact .aq hT hd g' h hx
  |fin a b hT hd h=>exact .fin a b hT hd h
end
end Rn
namespace Rn
open Go Go.Conc Go.ConcN Go.ConcM Go.RowKit Go.Conc.Lib Go.ConcR.Gen
open Go.ConcR (KK WgAt stA smA rd wr mk DC0)
def RM(ph:Ph)(T:MT)(St:Nat->Prop)(w aJ:ai):Prop:=gY ph 2 St w aJ/\(T=.st->aJ.heap.size=w.heap.size)
theorem RM.refl{ph:Ph}{T:MT}{St:Nat->Prop}(w:ai):RM ph T St w w:=⟨gY.refl _ _,λ _=>rfl⟩
theorem RM.trans{ph:Ph}{T:MT}{St:Nat->Prop}{w aJ ed:ai}(h:RM ph T St w aJ)(k:RM ph T St aJ ed):RM ph T St w ed:=⟨h.1.trans k.1,λ e=>(k.2 e).trans (h.2 e)⟩
theorem xE{es:Array bT}(h:Wm es)(d:Nat):cG d es=d:=by
 obtain⟨l⟩:=es
 induction l with
 |nil=>rfl
 |cons e l ih=>
  rw[Go.ConcR.deafBehind_cons,Go.ConcR.deafBehind_one (h e (by simp)).1 (h e (by simp)).2]
  exact ih (λ x hx=>h x (by simp at hx ⊢;exact .inr hx))
section
variable{P:aG}{ph:Ph}{F:Nat->(Nat->Prop)->(Nat->Prop)->ai->Prop}{cF:aB}{csF:List aB}{T:MT}{k d:Nat}{WS RS XS:Nat->Prop}{g g':aI}{w w':ai}{es:Array bT}
theorem A7{Stop:aI->ai->Prop}:∀{m:Nat} {g:aI} {w:ai},Goes P ae (RM ph T λ b=>(WS b\/RS b)\/XS b) DC0 Stop m g w->
  (∀g w,(∀aJ,RM ph T (λ b=>(WS b\/RS b)\/XS b) w aJ->Stop g aJ)->sR P ph F cF csF ⟨T,k,d,WS,RS,XS,g,w⟩)->sR P ph F cF csF ⟨T,k,d,WS,RS,XS,g,w⟩
 |0,g,w,h,hS=>hS _ _ h
 |m+1,g,w,h,hS=>by
  rcases h with hs|⟨hr,dz⟩
  ·exact hS _ _ hs
  ·refine iA (λ _=>hr) λ aJ hw=>?_
   obtain⟨g',w',es,e,⟨hd1,Ss⟩,hn⟩:=goes_elim (dz aJ hw)
   subst hd1 Ss
   exact .AM WS g' w' #[] ⟨.inl ⟨rfl,e⟩,aA _,λ _ _ _ _=>rfl,λ cs h=>⟨cs,h,λ _ _ _=>rfl⟩,.refl _,rfl,rfl,by simp,by simp,CJ⟩ (λ _=>rfl) (A7 hn hS)
theorem bV{m:Nat}(hT:T≠.st)(h:Goes P ae (gY ph 2 λ b=>(WS b\/RS b)\/XS b) DC0 (λ g w=>sR P ph F cF csF ⟨T,k,d,WS,RS,XS,g,w⟩) m g w):sR P ph F cF csF ⟨T,k,d,WS,RS,XS,g,w⟩:=by
 have key:∀{m:Nat} {g:aI} {w:ai},Goes P ae (gY ph 2 λ b=>(WS b\/RS b)\/XS b) DC0 (λ g w=>sR P ph F cF csF ⟨T,k,d,WS,RS,XS,g,w⟩) m g w->sR P ph F cF csF ⟨T,k,d,WS,RS,XS,g,w⟩:=by
  intro m
  induction m with
  |zero=>intro g w h;exact h w (gY.refl _ _)
  |succ m ih=>
   intro g w h
   rcases h with hs|⟨hr,dz⟩
   ·exact hs w (gY.refl _ _)
   ·refine iA (λ _=>hr) λ aJ hw=>?_
    obtain⟨g',w',es,e,⟨hd1,Ss⟩,hn⟩:=goes_elim (dz aJ hw.1)
    subst hd1 Ss
    exact .AM WS g' w' #[] ⟨.inl ⟨rfl,e⟩,aA _,λ _ _ _ _=>rfl,λ cs h=>⟨cs,h,λ _ _ _=>rfl⟩,.refl _,rfl,rfl,by simp,by simp,CJ⟩ (λ _=>rfl) (ih hn)
 exact key h
theorem zbk(e:bU P ae g w=.go g' w es)(he:∀e∈es,tE ph 2 ae WS RS e):Sil P ph 2 ae WS RS g w WS g' w es []:=
 ⟨.inl ⟨rfl,e⟩,aA _,λ _ _ _ _=>rfl,λ cs h=>⟨cs,h,λ _ _ _=>rfl⟩,.refl _,rfl,rfl,he,by simp,CJ⟩
theorem Y8:∀e∈#[mk .disable],tE ph 2 ae WS RS e:=by
 intro e he;simp at he;subst he
 exact⟨λ x hx=>by simp[aP,cB,mk] at hx,λ a h=>by simp[aP,mk] at h⟩
theorem GZ:∀e∈#[mk .enable],tE ph 2 ae WS RS e:=by
 intro e he;simp at he;subst he
 exact⟨λ x hx=>by simp[aP,cB,mk] at hx,λ a h=>by simp[aP,mk] at h⟩
theorem JW(a:cr)(h:a.block=ph.Wg):(∀e∈#[mk (.read a)],tE ph 2 ae WS RS e)/\∀e∈#[mk (.write a)],tE ph 2 ae WS RS e:=by
 refine⟨λ e he=>?_,λ e he=>?_⟩<;>simp at he<;>subst he
 all_goals
  refine⟨λ x hx=>?_,λ a h=>by simp[aP,mk] at h⟩
  simp only[mk,aP,cB,aF] at hx
  subst hx
  exact .inr (.inr ⟨_,rfl,.inr h,by simp,λ _=>rfl⟩)
theorem GY(a:cr)(wrt:Bool)(h:a.block=ph.Wg):tE ph 2 ae WS RS ⟨.cell a,wrt,ae⟩:=by
 refine⟨λ x hx=>?_,λ a h=>by cases wrt<;>cases h⟩
 have:x=⟨.cell a,wrt,.atomic⟩:=by cases wrt<;>simpa [aP,cB,eq_comm] using hx
 subst this
 exact .inr (.inr ⟨_,rfl,.inr h,by simp,by simp⟩)
theorem OJ:∀e∈#[rd (stA ph.Wg),wr (stA ph.Wg)],tE ph 2 ae WS RS e:=by
 intro e he;simp at he
 rcases he with rfl|rfl
 ·exact GY _ aa rfl
 ·exact GY _ ae rfl
theorem yW:∀e∈#[rd (stA ph.Wg)],tE ph 2 ae WS RS e:=by
 intro e he;simp at he;subst he;exact GY _ aa rfl
theorem Y9:∀e∈semEvents (smA ph.Wg),tE ph 2 ae WS RS e:=by
 intro e he
 simp[semEvents] at he
 rcases he with rfl|rfl|rfl|rfl
 ·exact⟨λ x hx=>by simp[aP,cB] at hx,λ a h=>by simp[aP] at h⟩
 ·exact GY _ _ rfl
 ·exact GY _ _ rfl
 ·exact⟨λ x hx=>by simp[aP,cB] at hx,λ a h=>by simp[aP] at h⟩
theorem qP(e:bU P ae g w=.go g' w es)(he:∀e∈es,tE ph 2 ae WS RS e):VZ P ph (λ _=>False) WS RS g w g' w es:=⟨e,rfl,λ _ _=>rfl,.refl _,rfl,rfl,he⟩
theorem CI{a:cr}{v:aj}(ha:a.block=ph.Wg)(e:bU P ae g w=.go g' (w.setCell a v) es)(he:∀e∈es,tE ph 2 ae WS RS e):VZ P ph (λ b=>b=ph.Wg) WS RS g w g' (w.setCell a v) es:=
 have A:=aside_setCell w a v
 ⟨e,A.size,λ b hb=>A.block b λ z=>hb (z.trans ha),by rw[A.os];exact .refl _,A.tape,A.output,he⟩
theorem wB{d':Nat}(hg:g.status=.running)(h:∀aJ,gY ph 2 (λ b=>(WS b\/RS b)\/XS b) w aJ->∃g',bU P ae g aJ=.go g' aJ es/\sR P ph F cF csF ⟨T,k,d',WS,RS,XS,g',aJ⟩)(he:∀e∈es,tE ph 2 ae WS RS e)(hd:cG d es=d')(hT:T≠.st:=by simp):
  sR P ph F cF csF ⟨T,k,d,WS,RS,XS,g,w⟩:=by
 refine iA (λ _=>hg) λ aJ bA=>?_
 obtain⟨g',e,hB⟩:=h aJ bA.1
 refine .AM WS g' aJ es (zbk e he) (λ h=>absurd h hT) ?_
 rw[hd]
 exact hB
end
section
variable{ph:Ph}{F:Nat->(Nat->Prop)->(Nat->Prop)->ai->Prop}{cF:aB}{csF:List aB}{T:MT}{k d:Nat}{WS RS XS:Nat->Prop}{w:ai}
variable{b:aB}{a:Act}{ops:Array Oper}{i:Nat}{rest:List Nat}{kk:List Item}{cs:List aB}{o:Oper}
variable{t e:au}{x:bp}{r off:Nat}{c:Array aj}
theorem G9{n:Nat}{dd:ia}{f:Nat×Nat}(ho:ops[i]?=ab o)(hw:aR o (yielded ops a.tmps)=ae)(hk:b.kind≠.early)(cM:o.op=.load t x)
  (hx:a.eval x=.pointer (ab ⟨r,off,ak⟩)) (hr:WS r\/RS r) (h:w.heap[r]?=ab (.cells c e f)) (hu:an.underlying t=ab dd) (hd:dd.isRow=ae) (hs:(an.info? t).map (·.size)=ab n) (hn:off+n<=c.size)
  (hK:∀aJ,RM ph T (λ b=>(WS b\/RS b)\/XS b) w aJ->sR an ph F cF csF ⟨T,k,d,WS,RS,XS,G (b.at (a.put o.dst (.agg (c.extract off (off+n)))) (.inRegion ops rest::kk)) cs,aJ⟩) (hT:T≠.st:=by simp):
  sR an ph F cF csF ⟨T,k,d,WS,RS,XS,G (b.at a (.inRegion ops (i::rest)::kk)) cs,w⟩:=by
 refine iA (λ _=>rfl) λ aJ bA=>?_
 obtain⟨es,e1,e2⟩:=Vs (main:=ae) (rest:=rest) (kk:=kk) (cs:=cs) ho hw hk cM hx ((bA.1.blk r (.inl hr)).trans h) hu hd hs hn
 refine .AM _ _ _ _ (Hr hr e1 e2) (λ h=>absurd h hT) ?_
 rw[xE (lQ e2)]
 exact hK aJ bA
theorem P0{P:aG}{g g':aI}{o:Obj}(e:bU P ae g w=.go g' { w with heap:=w.heap.push o } #[]):Sil P ph 2 ae WS RS g w (λ b=>WS b\/(b=w.heap.size/\¬ph.sh b)) g' { w with heap:=w.heap.push o } #[] []:=by
 have blk:∀b,b<w.heap.size->(w.heap.push o)[b]?=w.heap[b]?:=λ b hb=>by rw[bJ,if_neg (by omega)]
 refine⟨.inl ⟨rfl,e⟩,by simp,λ b hb _ _=>blk b hb,λ cs h=>⟨cs,⟨(blk _ (ah.1 h.1).1).trans h.1,h.2⟩,λ _ _ _=>rfl⟩,.refl _,rfl,rfl,by simp,by simp,λ b=>?_⟩
 simp only[sG]
 constructor
 ·rintro (h|⟨rfl,h⟩)
  ·exact .inl h
  ·exact .inr ⟨aA _,by omega,h⟩
 ·rintro (h|⟨h1,h2,h3⟩)
  ·exact .inl h
  ·exact .inr ⟨by omega,h3⟩
theorem qL{inf:lx}{z:aj}(ho:ops[i]?=ab o)(hw:aR o (yielded ops a.tmps)=ae)(hk:b.kind≠.early)(cM:o.op=.alloc t)(hi:an.info? t=ab inf)(hz:inf.zero=ab z)
  (hK:∀aJ w' n,RM ph T (λ b=>(WS b\/RS b)\/XS b) w aJ->n=aJ.heap.size->w'={ aJ with heap:=aJ.heap.push (.cells z.cells t) }->sR an ph F cF csF ⟨T,k,d,λ b=>WS b\/(b=n/\¬ph.sh b),RS,XS,G (b.at (a.put o.dst (.pointer (ab ⟨n,0,ak⟩))) (.inRegion ops rest::kk)) cs,w'⟩):
  sR an ph F cF csF ⟨T,k,d,WS,RS,XS,G (b.at a (.inRegion ops (i::rest)::kk)) cs,w⟩:=by
 refine iA (λ _=>rfl) λ aJ bA=>?_
 have e1:=Fv (P:=an) (main:=ae) (rest:=rest) (kk:=kk) (cs:=cs) (w:=aJ) ho hw hk cM hi hz
 exact .AM _ _ _ _ (P0 e1) (λ _=>rfl) (hK aJ _ _ bA rfl rfl)
variable{v:aj}
theorem zmK(ho:ops[i]?=ab o)(hw:aR o (yielded ops a.tmps)=ae)(hk:b.kind≠.early)(cM:o.op=.box t x)(hx:a.eval x=v)
  (hK:∀aJ w' n,RM ph T (λ b=>(WS b\/RS b)\/XS b) w aJ->n=aJ.heap.size->w'={ aJ with heap:=aJ.heap.push (.cells v.cells t) }->sR an ph F cF csF ⟨T,k,d,λ b=>WS b\/(b=n/\¬ph.sh b),RS,XS,G (b.at (a.put o.dst (.pointer (ab ⟨n,0,ak⟩))) (.inRegion ops rest::kk)) cs,w'⟩):
  sR an ph F cF csF ⟨T,k,d,WS,RS,XS,G (b.at a (.inRegion ops (i::rest)::kk)) cs,w⟩:=by
 refine iA (λ _=>rfl) λ aJ bA=>?_
 have e1:=zjE (P:=an) (main:=ae) (rest:=rest) (kk:=kk) (cs:=cs) (w:=aJ) ho hw hk cM hx
 exact .AM _ _ _ _ (P0 e1) (λ _=>rfl) (hK aJ _ _ bA rfl rfl)
theorem zmL{inf:lx}{z:aj}(ho:ops[i]?=ab o)(hw:aR o (yielded ops a.tmps)=ae)(hk:b.kind≠.early)(cM:o.op=.alloc t)(hi:an.info? t=ab inf)(hz:inf.zero=ab z)
  (DC:∀aJ,RM ph .st (λ b=>(WS b\/RS b)\/XS b) w aJ->ph.sh aJ.heap.size)
  (h1:∀aJ w',RM ph .st (λ b=>(WS b\/RS b)\/XS b) w aJ->w'={ aJ with heap:=aJ.heap.push (.cells z.cells t) }->MuAt ph.tM ph.Mu w' 0 0/\WgAt ph.tW ph.Wg w' 0 0/\∃cs,Am ph w' cs)
  (hK:∀aJ w' n,RM ph .st (λ b=>(WS b\/RS b)\/XS b) w aJ->n=aJ.heap.size->w'={ aJ with heap:=aJ.heap.push (.cells z.cells t) }->sR an ph F cF csF ⟨.ad 0,k,0,WS,RS,Yj,G (b.at (a.put o.dst (.pointer (ab ⟨n,0,ak⟩))) (.inRegion ops rest::kk)) cs,w'⟩):
  sR an ph F cF csF ⟨.st,k,0,WS,RS,XS,G (b.at a (.inRegion ops (i::rest)::kk)) cs,w⟩:=by
 refine iA (λ _=>rfl) λ aJ bA=>?_
 have e1:=Fv (P:=an) (main:=ae) (rest:=rest) (kk:=kk) (cs:=cs) (w:=aJ) ho hw hk cM hi hz
 obtain⟨a1,a2,a3⟩:=h1 aJ _ bA rfl
 have O3:(λ b=>WS b\/(b=aJ.heap.size/\¬ph.sh b))=WS:=by
  funext x
  apply propext
  exact⟨λ h=>h.elim id λ z=>absurd (z.1▸DC aJ bA) z.2,.inl⟩
 have s1:=P0 (ph:=ph) (WS:=WS) (RS:=RS) e1
 rw[O3] at s1
 exact .est rfl rfl _ _ _ s1 a1 a2 a3 (hK aJ _ _ bA rfl rfl)
theorem JS{y:bp}{n:Nat}{vs:Array aj}(ho:ops[i]?=ab o)(hw:aR o (yielded ops a.tmps)=ae)(hk:b.kind≠.early)(cM:o.op=.store t x y)
  (hx:a.eval x=.pointer (ab ⟨r,off,ak⟩)) (hy:a.eval y=.agg vs) (hr:WS r) (DC:¬ph.sh r) (h:w.heap[r]?=ab (.cells c e)) (hs:(an.info? t).map (·.size)=ab n) (hv:vs.size=n) (hn:off+n<=c.size) (h1:vs.all pP=ae)
  (hK:∀aJ w',RM ph T (λ b=>(WS b\/RS b)\/XS b) w aJ->w'.heap[r]?=ab (.cells (c.extract 0 off++vs++c.extract (off+n) c.size) e)->(∀k,k≠r->w'.heap[k]?=aJ.heap[k]?)->w'.heap.size=aJ.heap.size->sR an ph F cF csF ⟨T,k,d,WS,RS,XS,G (b.at (a.put o.dst undef) (.inRegion ops rest::kk)) cs,w'⟩) (hT:T≠.st:=by simp):
  sR an ph F cF csF ⟨T,k,d,WS,RS,XS,G (b.at a (.inRegion ops (i::rest)::kk)) cs,w⟩:=by
 refine iA (λ _=>rfl) λ aJ bA=>?_
 obtain⟨w',es,e1,e2,e3,e4,e5,e6,e7,e8,_⟩:=Fw (main:=ae) (rest:=rest) (kk:=kk) (cs:=cs) ho hw hk cM hx hy ((bA.1.blk r (.inl (.inl hr))).trans h) hs hv hn h1
 refine .AM _ _ _ _ (Ka hr DC e1 e2 e4 e5 e6 e7 e8) (λ h=>absurd h hT) ?_
 rw[xE (lQ e2)]
 exact hK aJ w' bA e3 e4 e5
theorem P6{y:bp}(ho:ops[i]?=ab o)(hw:aR o (yielded ops a.tmps)=ae)(hk:b.kind≠.early)(cM:o.op=.store t x y)
  (hx:a.eval x=.pointer (ab ⟨r,off,ak⟩)) (hy:a.eval y=v) (hr:WS r) (DC:¬ph.sh r) (h:w.heap[r]?=ab (.cells c e)) (hs:(an.info? t).map (·.size)=ab 1) (hn:off<c.size) (h1:pP v=ae)
  (hK:∀aJ w',RM ph T (λ b=>(WS b\/RS b)\/XS b) w aJ->w'.heap[r]?=ab (.cells (c.extract 0 off++#[v]++c.extract (off+1) c.size) e)->(∀k,k≠r->w'.heap[k]?=aJ.heap[k]?)->w'.heap.size=aJ.heap.size->sR an ph F cF csF ⟨T,k,d,WS,RS,XS,G (b.at (a.put o.dst undef) (.inRegion ops rest::kk)) cs,w'⟩) (hT:T≠.st:=by simp):
  sR an ph F cF csF ⟨T,k,d,WS,RS,XS,G (b.at a (.inRegion ops (i::rest)::kk)) cs,w⟩:=by
 refine iA (λ _=>rfl) λ aJ bA=>?_
 obtain⟨w',es,e1,e2,e3,e4,e5,e6,e7,e8,_⟩:=zaj (main:=ae) (rest:=rest) (kk:=kk) (cs:=cs) ho hw hk cM hx hy ((bA.1.blk r (.inl (.inl hr))).trans h) hs hn h1
 refine .AM _ _ _ _ (Ka hr DC e1 e2 e4 e5 e6 e7 e8) (λ h=>absurd h hT) ?_
 rw[xE (lQ e2)]
 exact hK aJ w' bA e3 e4 e5
theorem YV(ho:ops[i]?=ab o)(hw:aR o (yielded ops a.tmps)=ae)(hk:b.kind≠.early)(h:∀w,(bd a.eval o).run an w=.ok (.value v) w)(he:∀w,(bd a.eval o).events an w #[]=#[])
  (hK:∀aJ,RM ph T (λ b=>(WS b\/RS b)\/XS b) w aJ->sR an ph F cF csF ⟨T,k,d,WS,RS,XS,G (b.at (a.put o.dst v) (.inRegion ops rest::kk)) cs,aJ⟩):
  sR an ph F cF csF ⟨T,k,d,WS,RS,XS,G (b.at a (.inRegion ops (i::rest)::kk)) cs,w⟩:=by
 refine iA (λ _=>rfl) λ aJ bA=>?_
 have e1:=tX (P:=an) (main:=ae) (rest:=rest) (kk:=kk) (cs:=cs) (w:=aJ) (w':=aJ) (es:=#[]) ho hw hk (by rw[Sem.runT_eq,h,he])
 rw[xI] at e1
 exact .AM _ _ _ _ (zbk e1 (by simp)) (λ _=>rfl) (hK aJ bA)
end
theorem JY:∀(vs:List aj) (cells:List aj) (off j:Nat),off+j+vs.length<=cells.length->
  ((vs.zipIdx j).foldl (λ(cs:Array aj) (x:aj×Nat)=>cs.setIfInBounds (off+x.2) x.1) cells.toArray)=(cells.take (off+j)++vs++cells.drop (off+j+vs.length)).toArray
 |[],cells,off,j,_=>by simp
 |v::vs,cells,off,j,h=>by
  simp only[bP] at h
  simp only[List.zipIdx_cons,List.foldl_cons]
  have e:cells.toArray.setIfInBounds (off+j) v=(cells.set (off+j) v).toArray:=by simp
  rw[e,JY vs _ off (j+1) (by simp;omega)]
  congr 1
  rw[<-Nat.add_assoc,Da (by omega),dO,qp (by omega),Dc (by omega)]
  simp only[Option.toList_some,dN,List.cons_append,ju,bP]
  congr 4
  omega
theorem zoR{A B z:Array aj}{n:Nat}{pl:Nat->Option (Nat×Nat)}(hA:A.size=n)(hB:B.size=n)(hz:z.size=2*n)(h0:pl 0=ab (0,n))(h1:pl 1=ab (n,n)):eJ pl z [(0,.agg A),(1,.agg B)]=ab (A++B):=by
 obtain⟨A⟩:=A
 obtain⟨B⟩:=B
 obtain⟨z⟩:=z
 simp only[jg] at hA hB hz
 have e1:(List.toArray A).zipIdx.foldl (λ(cs:Array aj) (x:aj×Nat)=>cs.setIfInBounds (0+x.2) x.1) z.toArray=(A++z.drop n).toArray:=by
  rw[<-j0,jB,JY A z 0 0 (by omega)]
  simp[hA]
 have e2:(List.toArray B).zipIdx.foldl (λ(cs:Array aj) (x:aj×Nat)=>cs.setIfInBounds (n+x.2) x.1) (A++z.drop n).toArray=(A++B).toArray:=by
  rw[<-j0,jB,JY B (A++z.drop n) n 0 (by simp;omega)]
  congr 1
  rw[Nat.add_zero,oQ hA,eZ (by simp;omega),eO]
 have c1:(tr A.toArray).cells=A.toArray:=rfl
 have c2:(tr B.toArray).cells=B.toArray:=rfl
 unfold eJ
 simp only[h0,c1,jg]
 rw[if_neg (by simp;omega)]
 unfold eJ
 simp only[h1,c2,jg]
 rw[e1,if_neg (by simp;omega),e2]
 simp[eJ]
theorem uBo:an.underlying 120=ab (.array 2 36):=by kernel_rfl
theorem zBo:((an.info? 120).bind (·.zero)).map (λ z=>z.cells.size)=ab 44:=by kernel_rfl
theorem zLk:((an.info? 38).bind (·.zero)).map (λ z=>z.cells.size)=ab 44:=by kernel_rfl
theorem sLk:(an.info? 38).map (·.size)=ab 44:=by kernel_rfl
theorem uLk:(an.underlying 38).any TypeDesc.isRow=ae:=by kernel_rfl
theorem zMu:((an.info? 119).bind (·.zero)).map (·.cells)=ab #[.int .i32 0,.int .u32 0]:=by kernel_rfl
theorem zWg:((an.info? 115).bind (·.zero)).map (·.cells)=ab #[.int .u64 0,.int .u32 0]:=by kernel_rfl
theorem zzN:((an.info? 3).bind (·.zero)).map (·.cells)=ab #[.int .i64 0]:=by kernel_rfl
theorem zuT:(an.info? 3).map (·.size)=ab 1:=by kernel_rfl
def fieldsOf(d:Option ia):Array Field:=match d with
 |some (.struct fs)=>fs
 |_=>#[]
theorem zzF:an.underlying 38=ab (.struct (fieldsOf (an.underlying 38))):=by kernel_rfl
theorem zzG(w:ai)(es:Array bT):((fieldsOf (an.underlying 38)).mapM λ f=>do pure (f.offset,<-sizeOf f.type):Sem (Array (Nat×Nat))).runT an w es=(.ok #[(0,22),(22,22)] w,es):=by kernel_rfl
theorem zdR{t:au}{n:Nat}(h:((an.info? t).bind (·.zero)).map (λ z=>z.cells.size)=ab n)(w:ai)(es:Array bT):∃z:aj,(ee t).runT an w es=(.ok z w,es)/\z.cells.size=n:=by
 obtain⟨z,h1,h2⟩:=aN.1 h
 obtain⟨i,h3,h4⟩:=cP.1 h1
 refine⟨z,?_,h2⟩
 unfold ee
 rw[dt,WU h3]
 simp only[h4]
 rfl
section
variable{A B:Array aj}
theorem zjm(hA:A.size=22)(hB:B.size=22)(w:ai)(es:Array bT):(iV 120 #[(0,.agg A),(1,.agg B)]).runT an w es=(.ok (.agg (A++B)) w,es):=by
 obtain⟨z,h1,h2⟩:=zdR zBo w es
 unfold iV
 rw[dt,h1]
 dsimp only
 rw[dt,xv uBo]
 dsimp only
 rw[dt,vz sDr]
 dsimp only
 rw[zoR (n:=22) hA hB h2 rfl rfl]
 rfl
theorem zjn(hA:A.size=22)(hB:B.size=22)(w:ai)(es:Array bT):(iV 38 #[(0,.agg A),(1,.agg B)]).runT an w es=(.ok (.agg (A++B)) w,es):=by
 obtain⟨z,h1,h2⟩:=zdR zLk w es
 unfold iV
 rw[dt,h1]
 dsimp only
 rw[dt,xv zzF]
 dsimp only
 rw[dt,zzG]
 dsimp only
 rw[zoR (n:=22) hA hB h2 rfl rfl]
 rfl
theorem zg7(hA:A.size=22):(A++B).extract 0 22=A:=by
 apply fj
 simp only[cD,dw,bI,fL,jH]
 exact oQ (by simpa using hA)
theorem zg8(hA:A.size=22)(hB:B.size=22):(A++B).extract 22 44=B:=by
 apply fj
 simp only[cD,dw,bI]
 rw[zU (by simpa using hA),bq (by simp[hB])]
theorem zdD(hA:A.size=22)(hB:B.size=22)(w:ai)(es:Array bT):(kG 120 (.agg (A++B)) (.int .i64 0)).runT an w es=(.ok (.agg A) w,es)/\(kG 120 (.agg (A++B)) (.int .i64 1)).runT an w es=(.ok (.agg B) w,es):=by
 obtain⟨d,hd,hr⟩:=any_some uDr
 constructor
 ·unfold kG
  simp only[asIntOf]
  rw[dt]
  rw[show (pure (aL,(0:Int)):Sem (IntKind×Int)).runT an w es=(.ok (.i64,0) w,es) from rfl]
  dsimp only
  rw[dt,xv uBo]
  dsimp only
  rw[if_pos (by decide),dt,vz sDr]
  dsimp only
  unfold part
  rw[dt,PL hd hr]
  simp only[if_true]
  rw[dt,vz sDr]
  show (Result.ok (tr ((A++B).extract (0*22) (0*22+22))) w,es)=_
  rw[show (0*22+22)=22 from rfl,show 0*22=0 from rfl,zg7 hA]
 ·unfold kG
  simp only[asIntOf]
  rw[dt]
  rw[show (pure (aL,(1:Int)):Sem (IntKind×Int)).runT an w es=(.ok (.i64,1) w,es) from rfl]
  dsimp only
  rw[dt,xv uBo]
  dsimp only
  rw[if_pos (by decide),dt,vz sDr]
  dsimp only
  unfold part
  rw[dt,PL hd hr]
  simp only[if_true]
  rw[dt,vz sDr]
  show (Result.ok (tr ((A++B).extract (1*22) (1*22+22))) w,es)=_
  rw[show (1*22+22)=44 from rfl,show 1*22=22 from rfl,zg8 hA hB]
end
section
variable{ph:Ph}{F:Nat->(Nat->Prop)->(Nat->Prop)->ai->Prop}{cF:aB}{csF:List aB}{T:MT}{k d:Nat}{WS RS XS:Nat->Prop}{w:ai}
variable{b:aB}{a:Act}{ops:Array Oper}{i:Nat}{rest:List Nat}{kk:List Item}{cs:List aB}{o:Oper}
theorem CM{v:aj}(ho:ops[i]?=ab o)(hw:aR o (yielded ops a.tmps)=ae)(hk:b.kind≠.early)(h:∀w,(bd a.eval o).runT an w #[]=(.ok (.value v) w,#[]))
  (hK:∀aJ,RM ph T (λ b=>(WS b\/RS b)\/XS b) w aJ->sR an ph F cF csF ⟨T,k,d,WS,RS,XS,G (b.at (a.put o.dst v) (.inRegion ops rest::kk)) cs,aJ⟩):
  sR an ph F cF csF ⟨T,k,d,WS,RS,XS,G (b.at a (.inRegion ops (i::rest)::kk)) cs,w⟩:=by
 refine iA (λ _=>rfl) λ aJ bA=>?_
 have e1:=tX (P:=an) (main:=ae) (rest:=rest) (kk:=kk) (cs:=cs) (w:=aJ) (w':=aJ) (es:=#[]) ho hw hk (h aJ)
 rw[xI] at e1
 exact .AM _ _ _ _ (zbk e1 (by simp)) (λ _=>rfl) (hK aJ bA)
end
section
variable{P:aG}{o:Oper}{ev:bp->aj}{w:ai}{v:aj}
theorem Za{t:au}{ps:Array (Nat×bp)}{vs:Array (Nat×aj)}(cM:o.op=.build t ps)(hv:ps.map (λ p=>(p.1,ev p.2))=vs)(h:(iV t vs).runT P w #[]=(.ok v w,#[])):(bd ev o).runT P w #[]=(.ok (.value v) w,#[]):=by
 subst hv
 unfold bd
 simp only[cM]
 rw[dt]
 erw [h]
 rfl
theorem Zb{t:au}{x y:bp}(cM:o.op=.index t x y)(h:(kG t (ev x) (ev y)).runT P w #[]=(.ok v w,#[])):(bd ev o).runT P w #[]=(.ok (.value v) w,#[]):=by
 unfold bd
 simp only[cM]
 rw[dt,h]
 rfl
end
theorem XM{P:aG}{main:Bool}{b:aB}{a:Act}{w:ai}{cs:List aB}{fn:Func}{todo:List Item}{c:aB}{v:aj}{es:Array bT}(hn:b.kind=.normal)(hd:a.defers=[])(hf:P.funcs[b.fn]?=ab fn)
  (hr:(results fn a.tmps).runT P w #[]=(.ok v w,es)):
  bU P main (G { b.at a todo with mode:=.returning } (c::cs)) w=.go (G (c.finish v) cs) w (seen P b.fn es):=by
 simp only[Sem.runT_eq,bz] at hr
 simp[G,bU,unwind,Hc,oC,hn,hd,hf,hr.1,hr.2,dE]
theorem zns {P : aG} {fn : Func} {tmps : Array aj} {a : Tmp} {t : au} {w : ai} {b o n : Nat} {d : ia} {cs : Array aj} {e : au} {f : Nat × Nat} (hr : fn.results = #[.cell a t]) (hx : tmps.getD a undef = .pointer (ab ⟨b, o, ak⟩))
    (h : w.heap[b]? = ab (.cells cs e f)) (hu : P.underlying t = ab d) (hd : d.isRow = ae) (hs : (P.info? t).map (·.size) = ab n) (hn : o + n ≤ cs.size) :
    ∃ es', (results fn tmps).runT P w #[] = (.ok (.agg (cs.extract o (o + n))) w, es') ∧ ∀ ev ∈ es', oX b o (o + n) aa ev := by
  obtain ⟨es', h1, h2⟩ := zhV (P := P) (o := o) h hu hd hs hn
  refine ⟨es', ?_, h2⟩
  unfold eY bZ at h1
  have h3 : (et t ⟨b, o, ak⟩).runT P w #[] = (.ok (.agg (cs.extract o (o + n))) w, es') := h1
  unfold results
  rw [hr, Array.mapM_eq_foldlM, ← Array.foldlM_toList]
  simp only [List.foldlM_cons, List.foldlM_nil]
  simp only [dt, hx, asAddr]
  have e9 : ∀ x : cr, (Functor.map (#[] : Array aj).push (do let y ← (pure x : Sem cr); et t y) : Sem (Array aj)) = (et t x >>= fun v => pure ((#[] : Array aj).push v)) := fun _ => rfl
  rw [e9, dt, h3]
  rfl
section
variable{ph:Ph}{F:Nat->(Nat->Prop)->(Nat->Prop)->ai->Prop}{cF:aB}{csF:List aB}{T:MT}{k d:Nat}{WS RS XS:Nat->Prop}{w w0 w':ai}
variable{b:aB}{a:Act}
variable{r:Nat}
theorem zeq{fn:Func}{todo:List Item}{c:aB}{cs:List aB}{x:Tmp}{t:au}{o n:Nat}{dd:ia}{us:Array aj}{e:au}{f:Nat×Nat}(hn:b.kind=.normal)(hd:a.defers=[])(hf:an.funcs[b.fn]?=ab fn)
  (hr:fn.results=#[.cell x t]) (hx:a.tmps.getD x undef=.pointer (ab ⟨r,o,ak⟩)) (hw:WS r\/RS r) (h:w.heap[r]?=ab (.cells us e f)) (hu:an.underlying t=ab dd) (hdd:dd.isRow=ae) (hs:(an.info? t).map (·.size)=ab n) (hle:o+n<=us.size)
  (hK:∀aJ,RM ph T (λ b=>(WS b\/RS b)\/XS b) w aJ->sR an ph F cF csF ⟨T,k,d,WS,RS,XS,G (c.finish (.agg (us.extract o (o+n)))) cs,aJ⟩) (hT:T≠.st:=by simp):
  sR an ph F cF csF ⟨T,k,d,WS,RS,XS,G { b.at a todo with mode:=.returning } (c::cs),w⟩:=by
 refine iA (λ _=>rfl) λ aJ bA=>?_
 obtain⟨es,e1,e2⟩:=zns (P:=an) (w:=aJ) hr hx ((bA.1.blk r (.inl hw)).trans h) hu hdd hs hle
 have e3:=XM (main:=ae) (cs:=cs) (todo:=todo) (c:=c) hn hd hf e1
 have e4:∀ev∈seen an b.fn es,oX r o (o+n) aa ev:=λ ev sC=>e2 ev (mem_seen sC)
 refine .AM _ _ _ _ (Hr hw e3 e4) (λ h=>absurd h hT) ?_
 rw[xE (lQ e4)]
 exact hK aJ bA
theorem tx{o o':Obj}(h:w.heap[r]?=ab o):(w.heap.push o')[r]?=ab o:=by
 have:=(ah.1 h).1
 rw[bJ,if_neg (by omega)]
 exact h
theorem KX.push{o:Obj}{m:Nat}(h:KX ph 2 (λ b=>(WS b\/RS b)\/XS b) w0 w)(e:w'={ w with heap:=w.heap.push o }):KX ph 2 (λ b=>((WS b\/(b=m/\¬ph.sh b))\/RS b)\/XS b) w' w':=by
 subst e
 refine⟨h.ok,λ b hb=>?_,gY.refl _ _,zhX h.l⟩
 rcases hb with((hb|hb)|hb)|hb
 ·exact h.st b (.inl (.inl hb))
 ·exact hb.2
 ·exact h.st b (.inl (.inr hb))
 ·exact h.st b (.inr hb)
theorem KX.stored{St:Nat->Prop}(h:KX ph 2 St w0 w)(hr:¬ph.sh r)(e:∀k,k≠r->w'.heap[k]?=w.heap[k]?):KX ph 2 St w' w':=
 ⟨h.ok,h.st,gY.refl _ _,h.l.same λ b hb=>e b λ x=>hr (x▸hb)⟩
end
section
variable{ph:Ph}{F:Nat->(Nat->Prop)->(Nat->Prop)->ai->Prop}{cF:aB}{csF:List aB}{k:Nat}{WS RS XS:Nat->Prop}{w0 w:ai}
variable{vh:aB}{nN:Act}{jk:Array Oper}{C7:Nat}{mZ:List Nat}{Gv:List Item}{cs:List aB}{o:Oper}
theorem zdf(htW:ph.tW=115){j:Nat}{args:Array bp}{qv:Array au}(ho:jk[C7]?=ab o)(hw:aR o (yielded jk nN.tmps)=ae)(hk:vh.kind≠.early)(cM:o.op=.call { callee:=.value (.func 66),args:=args,argTypes:=qv })
  (hx:args.map nN.eval=#[.pointer (ab ⟨ph.Wg,0,ak⟩),.int .i64 1])
  (hK:∀w,KX ph 2 (λ b=>(WS b\/RS b)\/XS b) w0 w->sR an ph F cF csF ⟨.go j,k,0,WS,RS,XS,G (vh.at (nN.put o.dst (.tuple #[])) (.inRegion jk mZ::Gv)) cs,w⟩) (hF:KX ph 2 (λ b=>(WS b\/RS b)\/XS b) w0 w):
  sR an ph F cF csF ⟨.ad j,k,0,WS,RS,XS,G (vh.at nN (.inRegion jk (C7::mZ)::Gv)) cs,w⟩:=by
 have zaP:nN.put o.dst (.tuple #[])=nN.put ((jk[C7]?).bind (·.dst)) (.tuple #[]):=by rw[ho];rfl
 rw[zaP] at hK
 refine bV (by simp) (m:=61) ?_
 refine CL rfl (λ aJ O8=>?_)
 replace hF:=hF.rely O8
 clear O8
 rw[xK ho hw hk cM kH nm_add rfl]
 simp only[rz]
 refine⟨by u_nil,?_⟩
 rw[hx,enter_at _ kH rfl]
 clear ho hw hk cM hx zaP
 walk_nrmf Tryz.f66
 repeat w_go KX.rely
 refine bn (λ _ bA=>?_)
 replace hF:=KX.rely hF bA
 clear bA
 refine wB (d':=1) rfl (λ ed er=>⟨_,gk .disable (by simp) rfl rfl (by k_ne) rfl cC.f_disable (vP aD) (vN aD) (vQ aD) (vO aD),?_⟩) Y8 rfl
 replace hF:=KX.rely hF er
 clear er
 refine bV (by simp) (m:=90) ?_
 walk_nrm
 repeat w_go KX.rely
 u_defer KX.rely hF
 repeat w_go KX.rely
 u_in KX.rely hF
 rw[stepG_entry_pure (.bool aa) rfl rfl (by k_ne) rfl cC.f_inBubble (x_inBubble_n aD) (x_inBubble_b aD) (x_inBubble_x aD) (x_inBubble_f aD)]
 simp only[rz]
 refine⟨by u_nil,?_⟩
 walk_nrm
 repeat w_go KX.rely
 u_call kL nm_uAdd Tryz.f115 KX.rely hF
 repeat w_go KX.rely
 m_num
 refine bn (λ _ bA=>?_)
 replace hF:=KX.rely hF bA
 clear bA
 refine iA (λ _=>rfl) λ ed er=>?_
 replace hF:=KX.rely hF er.1
 clear er
 refine .ad j rfl λ v hv iZ=>?_
 have Js:v=0\/v=1:=by omega
 rcases Js with rfl|rfl
 ·
  replace iZ:WgAt ph.tW ph.Wg ed 0 0:=by simpa [KK] using iZ
  have e1:py.wrap (0+4294967296)=4294967296:=by decide
  have z:(((0+1:Nat):Int))*KK=4294967296:=by simp[KK]
  rw[z]
  refine⟨_,_,_,CI rfl ((iH rfl rfl (by k_ne) rfl cC.f_addU64 (x_addU64_n aD) (x_addU64_b aD) (x_addU64_x aD) .u64 (x_addU64_f aD) rfl rfl iZ.cellSt (iZ.thaw 0)).trans (by rw[e1];rfl)) OJ,iZ.setSt _,?_⟩
  replace hF:=hF.setWg (a:=stA ph.Wg) (v:=.int .u64 4294967296) rfl (iZ.setSt _)
  show sR an ph F cF csF ⟨.go j,k,1,WS,RS,XS,_,_⟩
  refine bV (by simp) (m:=140) ?_
  walk_nrm
  try simp only[e1]
  repeat w_go KX.rely
  u_leave1 kL KX.rely hF
  repeat w_go KX.rely
  m_convG an cC.underlying_tUP cC.underlying_tPU32 cC.room_tU32 hF.ws.choose_spec KX.rely hF
  refine bn (λ _ bA=>?_)
  replace hF:=KX.rely hF bA
  clear bA
  refine wB (d':=1) rfl (λ ed er=>⟨_,ic .read (by simp) rfl rfl (by k_ne) rfl cC.f_raceRead (x_raceRead_n aD) (x_raceRead_b aD) (x_raceRead_x aD) (x_raceRead_f aD) (ad:=⟨ph.Wg,1,ak⟩) (by simp[bX]),?_⟩) (JW _ rfl).1 rfl
  replace hF:=KX.rely hF er
  clear er
  refine bV (by simp) (m:=140) ?_
  walk_nrm
  repeat w_go KX.rely
  refine bn (λ _ bA=>?_)
  replace hF:=KX.rely hF bA
  clear bA
  refine wB (d':=0) rfl (λ ed er=>⟨_,stepG_unwind_entry (v:=.tuple #[]) (evs:=#[mk .enable]) rfl cC.f_enable (kZ aD) (kX aD) (k8 aD) (kY aD) (by simp[Extern.Race.none_]) (by simp[mk]) (by simp[mk]),?_⟩) GZ rfl
  replace hF:=KX.rely hF er
  clear er
  refine bV (by simp) (m:=20) ?_
  walk_nrm
  u_leave0 kH KX.rely hF
  exact bn (λ _ bA=>hK _ (KX.rely hF bA))
 ·
  replace iZ:WgAt ph.tW ph.Wg ed 4294967296 0:=by simpa [KK] using iZ
  have e1:py.wrap (4294967296+4294967296)=8589934592:=by decide
  have b1:bits .and .u64 8589934592 2147483648=0:=by decide
  have b2:bits .and .u64 8589934592 2147483647=0:=by decide
  have z:(((1+1:Nat):Int))*KK=8589934592:=by simp[KK]
  rw[z]
  refine⟨_,_,_,CI rfl ((iH rfl rfl (by k_ne) rfl cC.f_addU64 (x_addU64_n aD) (x_addU64_b aD) (x_addU64_x aD) .u64 (x_addU64_f aD) rfl rfl iZ.cellSt (iZ.thaw 0)).trans (by rw[e1];rfl)) OJ,iZ.setSt _,?_⟩
  replace hF:=hF.setWg (a:=stA ph.Wg) (v:=.int .u64 8589934592) rfl (iZ.setSt _)
  show sR an ph F cF csF ⟨.go j,k,1,WS,RS,XS,_,_⟩
  refine bV (by simp) (m:=140) ?_
  walk_nrm
  try simp only[e1]
  repeat w_go KX.rely
  u_leave1 kL KX.rely hF
  repeat w_go KX.rely
  refine bn (λ _ bA=>?_)
  replace hF:=KX.rely hF bA
  clear bA
  refine wB (d':=0) rfl (λ ed er=>⟨_,stepG_unwind_entry (v:=.tuple #[]) (evs:=#[mk .enable]) rfl cC.f_enable (kZ aD) (kX aD) (k8 aD) (kY aD) (by simp[Extern.Race.none_]) (by simp[mk]) (by simp[mk]),?_⟩) GZ rfl
  replace hF:=KX.rely hF er
  clear er
  refine bV (by simp) (m:=20) ?_
  walk_nrm
  u_leave0 kH KX.rely hF
  exact bn (λ _ bA=>hK _ (KX.rely hF bA))
end
def xF:Code->Option Code
 |.loop c=>ab c
 |.seq x y=>match xF x with|some c=>ab c|none=>xF y
 |.block _ c=>xF c
 |_=>ak
noncomputable def zhJ:Code:=Tryz.f71.body.getD .skip
noncomputable def LWt:Code:=(xF zhJ).getD .skip
section
variable{ph:Ph}{F:Nat->(Nat->Prop)->(Nat->Prop)->ai->Prop}{cF:aB}{csF:List aB}{WS RS XS:Nat->Prop}{w0:ai}
variable{vh:aB}{nN:Act}{jk:Array Oper}{C7:Nat}{mZ:List Nat}{Gv:List Item}{cs:List aB}{o:Oper}
def zrp(ph:Ph)(F:Nat->(Nat->Prop)->(Nat->Prop)->ai->Prop)(cF:aB)(csF:List aB)(WS RS XS:Nat->Prop)(w0:ai)(c:aB)(cs:List aB)(k:Nat):Prop:=
 ∀(j1 j2 j3 j4 j5 j6 j7 j8 j9 j10 j11 j12 j13 j14 j15 j16 j17 j18 j19 j20 j21 j22 j23 j24 j25 j26 j27 j28 j29 j30 j31 j32 j33 j34 j35 j36 j37 j38 j39 j40 j41 j42 j43 j44 j45 j46 j47 j48 j49 j50 j51 j52 j53 j54 j55 j56 j57 j58 j59 j60 j61 j62 j63 j64 j65 j66 j67 j68 j69 j70 j71 j72 j73 j74 j75 j76 j77 j78 j79 j80 j81 j82 j83:aj) (w:ai),KX ph 2 (λ b=>(WS b\/RS b)\/XS b) w0 w->
  sR an ph F cF csF ⟨.w1,k,1,WS,RS,XS,G ((Go.Conc.base 71).at ⟨#[.pointer (ab ⟨ph.Wg,0,ak⟩),j1,j2,j3,j4,j5,j6,j7,j8,j9,j10,j11,j12,j13,j14,j15,j16,j17,j18,j19,j20,j21,j22,j23,j24,j25,j26,j27,j28,j29,j30,j31,j32,j33,j34,j35,j36,j37,j38,j39,j40,j41,j42,j43,j44,j45,j46,j47,j48,j49,j50,j51,j52,j53,j54,j55,j56,j57,j58,j59,j60,j61,j62,j63,j64,j65,j66,j67,j68,j69,j70,j71,j72,j73,j74,j75,j76,j77,j78,j79,j80,j81,j82,j83],[]⟩ [.code LWt,.inLoop LWt,.inBlock 0]) (c::cs),w⟩
def zc9(ph:Ph)(F:Nat->(Nat->Prop)->(Nat->Prop)->ai->Prop)(cF:aB)(csF:List aB)(WS XS:Nat->Prop)(w0:ai)(g:aI):Prop:=
 ∀(k:Nat) (w:ai) (kr jb:Array aj),kr.size=ph.d->jb.size=ph.d->(kr++jb).all pP=ae->Am ph w (kr++jb)->(∀b,WS b->w.heap[b]?=w0.heap[b]?)->sR an ph F cF csF ⟨.fin kr jb,k,0,WS,λ b=>b=ph.Bo,XS,g,w⟩
theorem zkr(hE:zc9 ph F cF csF WS XS w0 (G (vh.at (nN.put ((jk[C7]?).bind (·.dst)) (.tuple #[])) (.inRegion jk mZ::Gv)) cs)):∀k,zrp ph F cF csF WS RS XS w0 (vh.at nN (.inRegion jk (C7::mZ)::Gv)) cs k:=by
 intro k
 induction k with
 |zero=>exact λ j1 j2 j3 j4 j5 j6 j7 j8 j9 j10 j11 j12 j13 j14 j15 j16 j17 j18 j19 j20 j21 j22 j23 j24 j25 j26 j27 j28 j29 j30 j31 j32 j33 j34 j35 j36 j37 j38 j39 j40 j41 j42 j43 j44 j45 j46 j47 j48 j49 j50 j51 j52 j53 j54 j55 j56 j57 j58 j59 j60 j61 j62 j63 j64 j65 j66 j67 j68 j69 j70 j71 j72 j73 j74 j75 j76 j77 j78 j79 j80 j81 j82 j83 w _=>iA (λ h=>absurd rfl h) λ aJ _=>.deep rfl
 |succ k ih=>
 refine λ j1 j2 j3 j4 j5 j6 j7 j8 j9 j10 j11 j12 j13 j14 j15 j16 j17 j18 j19 j20 j21 j22 j23 j24 j25 j26 j27 j28 j29 j30 j31 j32 j33 j34 j35 j36 j37 j38 j39 j40 j41 j42 j43 j44 j45 j46 j47 j48 j49 j50 j51 j52 j53 j54 j55 j56 j57 j58 j59 j60 j61 j62 j63 j64 j65 j66 j67 j68 j69 j70 j71 j72 j73 j74 j75 j76 j77 j78 j79 j80 j81 j82 j83 w hF=>?_
 refine bV (by simp) (m:=60) ?_
 simp only[LWt,zhJ,xF,Tryz.f71,cS]
 repeat w_go KX.rely
 u_call iN nm_uLoad Tryz.f117 KX.rely hF
 repeat w_go KX.rely
 refine bn (λ _ bA=>?_)
 replace hF:=KX.rely hF bA
 clear bA
 refine iA (λ _=>rfl) λ ed er=>?_
 replace hF:=KX.rely hF er.1
 clear er
 refine .w1 rfl λ v hv iZ=>?_
 have Js:v=0\/v=1\/v=2:=by omega
 rcases Js with rfl|rfl|rfl
 ·
  replace iZ:WgAt ph.tW ph.Wg ed 0 0:=by simpa [KK] using iZ
  refine⟨_,_,qP (kQ rfl rfl (by k_ne) rfl cC.f_loadU64 (sj aD) (se aD) (sk aD) .u64 (sg aD) rfl iZ.cellSt) yW,?_⟩
  show sR an ph F cF csF ⟨.aq,k+1,1,WS,RS,XS,_,_⟩
  clear iZ
  refine bV (by simp) (m:=60) ?_
  walk_nrm
  repeat w_go KX.rely
  u_leave1 iN KX.rely hF
  repeat w_go KX.rely
  refine bn (λ _ bA=>?_)
  replace hF:=KX.rely hF bA
  clear bA
  refine wB (d':=0) rfl (λ fY eR=>⟨_,gk .enable (by simp) rfl rfl (by k_ne) rfl cC.f_enable (kZ aD) (kX aD) (k8 aD) (kY aD),?_⟩) GZ rfl
  replace hF:=KX.rely hF eR
  clear eR
  refine bV (by simp) (m:=40) ?_
  walk_nrm
  repeat w_go KX.rely
  m_convG an cC.underlying_tUP cC.underlying_tWgP cC.room_tWg hF.wg.choose_spec KX.rely hF
  refine bn (λ _ bA=>?_)
  replace hF:=KX.rely hF bA
  clear bA
  refine iA (λ _=>rfl) λ fY eR=>?_
  replace hF:=KX.rely hF eR.1
  have dz:∀b,WS b->fY.heap[b]?=w0.heap[b]?:=λ b hb=>hF.r.blk b (.inl (.inl hb))
  clear hF eR
  refine .aq rfl rfl _ (ic .acquire (by simp) rfl rfl (by k_ne) rfl cC.f_acquire (pG aD) (pE aD) (pH aD) (pF aD) (by simp[bX,stA])) λ kr jb h1 h2 h0 h3=>?_
  have hF:gY ph 2 (λ b=>(WS b\/b=ph.Bo)\/XS b) fY fY:=gY.refl _ _
  refine bV (by simp) (m:=60) ?_
  walk_nrm
  repeat w_go gY.trans
  u_leave0 rZ gY.trans hF
  exact bn λ w r=>hE (k+1) w kr jb h1 h2 h0 ⟨((gY.trans hF r).blk _ (.inl (.inr rfl))).trans h3.1,h3.2⟩ λ b hb=>((gY.trans hF r).blk b (.inl (.inl hb))).trans (dz b hb)
 ·
  replace iZ:WgAt ph.tW ph.Wg ed 4294967296 0:=by simpa [KK] using iZ
  refine⟨_,_,qP (kQ rfl rfl (by k_ne) rfl cC.f_loadU64 (sj aD) (se aD) (sk aD) .u64 (sg aD) rfl iZ.cellSt) yW,?_⟩
  show sR an ph F cF csF ⟨.w2 1,k+1,1,WS,RS,XS,_,_⟩
  clear iZ
  refine bV (by simp) (m:=140) ?_
  walk_nrm
  repeat w_go KX.rely
  u_leave1 iN KX.rely hF
  repeat w_go KX.rely
  u_call nS nm_uCas Tryz.f125 KX.rely hF
  repeat w_go KX.rely
  m_num
  refine bn (λ _ bA=>?_)
  replace hF:=KX.rely hF bA
  clear bA
  refine iA (λ _=>rfl) λ fY eR=>?_
  replace hF:=KX.rely hF eR.1
  clear eR
  refine .w2 1 rfl λ u hu iZ=>⟨λ e=>?_,λ e=>?_⟩
  ·
   subst e
   replace iZ:WgAt ph.tW ph.Wg fY 4294967296 0:=by simpa [KK] using iZ
   have z:((1:Nat):Int)*KK+1=4294967297:=by simp[KK]
   rw[z]
   refine⟨_,_,_,CI rfl (jO rfl rfl (by k_ne) rfl cC.f_casU64 (x_casU64_n aD) (x_casU64_b aD) (x_casU64_x aD) .u64 (x_casU64_f aD) rfl rfl rfl iZ.cellSt (iZ.thaw 0)) OJ,iZ.setSt _,?_⟩
   show sR an ph F cF csF ⟨.w3,k+1,1,WS,RS,XS,_,_⟩
   replace hF:=hF.setWg (a:=stA ph.Wg) (v:=.int .u64 4294967297) rfl (iZ.setSt _)
   clear iZ
   refine bV (by simp) (m:=140) ?_
   walk_nrm
   repeat w_go KX.rely
   u_leave1 nS KX.rely hF
   repeat w_go KX.rely
   m_convG an cC.underlying_tUP cC.underlying_tPU32 cC.room_tU32 hF.ws.choose_spec KX.rely hF
   refine bn (λ _ bA=>?_)
   replace hF:=KX.rely hF bA
   clear bA
   refine wB (d':=1) rfl (λ ed er=>⟨_,ic .write (by simp) rfl rfl (by k_ne) rfl cC.f_raceWrite (x_raceWrite_n aD) (x_raceWrite_b aD) (x_raceWrite_x aD) (x_raceWrite_f aD) (ad:=⟨ph.Wg,1,ak⟩) (by simp[bX]),?_⟩) (JW _ rfl).2 rfl
   replace hF:=KX.rely hF er
   clear er
   refine bV (by simp) (m:=100) ?_
   walk_nrm
   repeat w_go KX.rely
   refine bn (λ _ bA=>?_)
   replace hF:=KX.rely hF bA
   clear bA
   refine iA (λ _=>rfl) λ sE zaY=>?_
   replace hF:=KX.rely hF zaY.1
   clear zaY
   refine .w3 rfl rfl (λ⟨x,iZ⟩=>mR rfl rfl rfl cC.f_semacquire (uI aD) (uG aD) (uJ aD) (uH aD) (by simp[bX,smA]) iZ.cellSm) λ iZ=>?_
   refine⟨_,_,_,CI rfl (q8 rfl rfl (by k_ne) rfl cC.f_semacquire (uI aD) (uG aD) (uJ aD) (uH aD) (by simp[bX,smA]) iZ.cellSm (by decide) (iZ.thaw 1)) Y9,iZ.setSm _,?_⟩
   show sR an ph F cF csF ⟨.w4,k+1,1,WS,RS,XS,_,_⟩
   replace hF:=hF.setWg (a:=smA ph.Wg) (v:=.int .u32 (1-1)) rfl (iZ.setSm _)
   clear iZ
   refine bV (by simp) (m:=100) ?_
   walk_nrm
   repeat w_go KX.rely
   u_call iN nm_uLoad Tryz.f117 KX.rely hF
   repeat w_go KX.rely
   refine bn (λ _ bA=>?_)
   replace hF:=KX.rely hF bA
   clear bA
   refine iA (λ _=>rfl) λ lS Yv=>?_
   replace hF:=KX.rely hF Yv.1
   clear Yv
   refine .w4 rfl λ iZ=>⟨_,_,qP (kQ rfl rfl (by k_ne) rfl cC.f_loadU64 (sj aD) (se aD) (sk aD) .u64 (sg aD) rfl iZ.cellSt) yW,?_⟩
   show sR an ph F cF csF ⟨.aq,k+1,1,WS,RS,XS,_,_⟩
   clear iZ
   refine bV (by simp) (m:=100) ?_
   walk_nrm
   repeat w_go KX.rely
   u_leave1 iN KX.rely hF
   repeat w_go KX.rely
   refine bn (λ _ bA=>?_)
   replace hF:=KX.rely hF bA
   clear bA
   refine wB (d':=0) rfl (λ fY eR=>⟨_,gk .enable (by simp) rfl rfl (by k_ne) rfl cC.f_enable (kZ aD) (kX aD) (k8 aD) (kY aD),?_⟩) GZ rfl
   replace hF:=KX.rely hF eR
   clear eR
   refine bV (by simp) (m:=40) ?_
   walk_nrm
   repeat w_go KX.rely
   m_convG an cC.underlying_tUP cC.underlying_tWgP cC.room_tWg hF.wg.choose_spec KX.rely hF
   refine bn (λ _ bA=>?_)
   replace hF:=KX.rely hF bA
   clear bA
   refine iA (λ _=>rfl) λ fY eR=>?_
   replace hF:=KX.rely hF eR.1
   have dz:∀b,WS b->fY.heap[b]?=w0.heap[b]?:=λ b hb=>hF.r.blk b (.inl (.inl hb))
   clear hF eR
   refine .aq rfl rfl _ (ic .acquire (by simp) rfl rfl (by k_ne) rfl cC.f_acquire (pG aD) (pE aD) (pH aD) (pF aD) (by simp[bX,stA])) λ kr jb h1 h2 h0 h3=>?_
   have hF:gY ph 2 (λ b=>(WS b\/b=ph.Bo)\/XS b) fY fY:=gY.refl _ _
   refine bV (by simp) (m:=60) ?_
   walk_nrm
   repeat w_go gY.trans
   u_leave0 rZ gY.trans hF
   exact bn λ w r=>hE (k+1) w kr jb h1 h2 h0 ⟨((gY.trans hF r).blk _ (.inl (.inr rfl))).trans h3.1,h3.2⟩ λ b hb=>((gY.trans hF r).blk b (.inl (.inl hb))).trans (dz b hb)
  ·
   have fh:(u:Int)*KK≠4294967296:=by simp only[KK];omega
   refine⟨_,_,qP (qk rfl rfl (by k_ne) rfl cC.f_casU64 (x_casU64_n aD) (x_casU64_b aD) (x_casU64_x aD) .u64 (x_casU64_f aD) rfl rfl rfl iZ.cellSt (iZ.thaw 0) fh) yW,?_⟩
   show sR an ph F cF csF ⟨.w1,k,1,WS,RS,XS,_,_⟩
   clear iZ fh
   refine bV (by simp) (m:=60) ?_
   walk_nrm
   repeat w_nl KX.rely
   u_leave1 nS KX.rely hF
   repeat w_nl KX.rely
   u_c stepG_inLoop KX.rely hF
   exact bn λ _ r=>ih _ _ _ _ _ _ _ _ _ _ _ _ _ _ _ _ _ _ _ _ _ _ _ _ _ _ _ _ _ _ _ _ _ _ _ _ _ _ _ _ _ _ _ _ _ _ _ _ _ _ _ _ _ _ _ _ _ _ _ _ _ _ _ _ _ _ _ _ _ _ _ _ _ _ _ _ _ _ _ _ _ _ _ _ (KX.rely hF r)
 ·
  replace iZ:WgAt ph.tW ph.Wg ed 8589934592 0:=by simpa [KK] using iZ
  refine⟨_,_,qP (kQ rfl rfl (by k_ne) rfl cC.f_loadU64 (sj aD) (se aD) (sk aD) .u64 (sg aD) rfl iZ.cellSt) yW,?_⟩
  show sR an ph F cF csF ⟨.w2 2,k+1,1,WS,RS,XS,_,_⟩
  clear iZ
  refine bV (by simp) (m:=140) ?_
  walk_nrm
  repeat w_go KX.rely
  u_leave1 iN KX.rely hF
  repeat w_go KX.rely
  u_call nS nm_uCas Tryz.f125 KX.rely hF
  repeat w_go KX.rely
  m_num
  refine bn (λ _ bA=>?_)
  replace hF:=KX.rely hF bA
  clear bA
  refine iA (λ _=>rfl) λ fY eR=>?_
  replace hF:=KX.rely hF eR.1
  clear eR
  refine .w2 2 rfl λ u hu iZ=>⟨λ e=>?_,λ e=>?_⟩
  ·
   subst e
   replace iZ:WgAt ph.tW ph.Wg fY 8589934592 0:=by simpa [KK] using iZ
   have z:((2:Nat):Int)*KK+1=8589934593:=by simp[KK]
   rw[z]
   refine⟨_,_,_,CI rfl (jO rfl rfl (by k_ne) rfl cC.f_casU64 (x_casU64_n aD) (x_casU64_b aD) (x_casU64_x aD) .u64 (x_casU64_f aD) rfl rfl rfl iZ.cellSt (iZ.thaw 0)) OJ,iZ.setSt _,?_⟩
   show sR an ph F cF csF ⟨.w3,k+1,1,WS,RS,XS,_,_⟩
   replace hF:=hF.setWg (a:=stA ph.Wg) (v:=.int .u64 8589934593) rfl (iZ.setSt _)
   clear iZ
   refine bV (by simp) (m:=140) ?_
   walk_nrm
   repeat w_go KX.rely
   u_leave1 nS KX.rely hF
   repeat w_go KX.rely
   m_convG an cC.underlying_tUP cC.underlying_tPU32 cC.room_tU32 hF.ws.choose_spec KX.rely hF
   refine bn (λ _ bA=>?_)
   replace hF:=KX.rely hF bA
   clear bA
   refine wB (d':=1) rfl (λ ed er=>⟨_,ic .write (by simp) rfl rfl (by k_ne) rfl cC.f_raceWrite (x_raceWrite_n aD) (x_raceWrite_b aD) (x_raceWrite_x aD) (x_raceWrite_f aD) (ad:=⟨ph.Wg,1,ak⟩) (by simp[bX]),?_⟩) (JW _ rfl).2 rfl
   replace hF:=KX.rely hF er
   clear er
   refine bV (by simp) (m:=100) ?_
   walk_nrm
   repeat w_go KX.rely
   refine bn (λ _ bA=>?_)
   replace hF:=KX.rely hF bA
   clear bA
   refine iA (λ _=>rfl) λ sE zaY=>?_
   replace hF:=KX.rely hF zaY.1
   clear zaY
   refine .w3 rfl rfl (λ⟨x,iZ⟩=>mR rfl rfl rfl cC.f_semacquire (uI aD) (uG aD) (uJ aD) (uH aD) (by simp[bX,smA]) iZ.cellSm) λ iZ=>?_
   refine⟨_,_,_,CI rfl (q8 rfl rfl (by k_ne) rfl cC.f_semacquire (uI aD) (uG aD) (uJ aD) (uH aD) (by simp[bX,smA]) iZ.cellSm (by decide) (iZ.thaw 1)) Y9,iZ.setSm _,?_⟩
   show sR an ph F cF csF ⟨.w4,k+1,1,WS,RS,XS,_,_⟩
   replace hF:=hF.setWg (a:=smA ph.Wg) (v:=.int .u32 (1-1)) rfl (iZ.setSm _)
   clear iZ
   refine bV (by simp) (m:=100) ?_
   walk_nrm
   repeat w_go KX.rely
   u_call iN nm_uLoad Tryz.f117 KX.rely hF
   repeat w_go KX.rely
   refine bn (λ _ bA=>?_)
   replace hF:=KX.rely hF bA
   clear bA
   refine iA (λ _=>rfl) λ lS Yv=>?_
   replace hF:=KX.rely hF Yv.1
   clear Yv
   refine .w4 rfl λ iZ=>⟨_,_,qP (kQ rfl rfl (by k_ne) rfl cC.f_loadU64 (sj aD) (se aD) (sk aD) .u64 (sg aD) rfl iZ.cellSt) yW,?_⟩
   show sR an ph F cF csF ⟨.aq,k+1,1,WS,RS,XS,_,_⟩
   clear iZ
   refine bV (by simp) (m:=100) ?_
   walk_nrm
   repeat w_go KX.rely
   u_leave1 iN KX.rely hF
   repeat w_go KX.rely
   refine bn (λ _ bA=>?_)
   replace hF:=KX.rely hF bA
   clear bA
   refine wB (d':=0) rfl (λ fY eR=>⟨_,gk .enable (by simp) rfl rfl (by k_ne) rfl cC.f_enable (kZ aD) (kX aD) (k8 aD) (kY aD),?_⟩) GZ rfl
   replace hF:=KX.rely hF eR
   clear eR
   refine bV (by simp) (m:=40) ?_
   walk_nrm
   repeat w_go KX.rely
   m_convG an cC.underlying_tUP cC.underlying_tWgP cC.room_tWg hF.wg.choose_spec KX.rely hF
   refine bn (λ _ bA=>?_)
   replace hF:=KX.rely hF bA
   clear bA
   refine iA (λ _=>rfl) λ fY eR=>?_
   replace hF:=KX.rely hF eR.1
   have dz:∀b,WS b->fY.heap[b]?=w0.heap[b]?:=λ b hb=>hF.r.blk b (.inl (.inl hb))
   clear hF eR
   refine .aq rfl rfl _ (ic .acquire (by simp) rfl rfl (by k_ne) rfl cC.f_acquire (pG aD) (pE aD) (pH aD) (pF aD) (by simp[bX,stA])) λ kr jb h1 h2 h0 h3=>?_
   have hF:gY ph 2 (λ b=>(WS b\/b=ph.Bo)\/XS b) fY fY:=gY.refl _ _
   refine bV (by simp) (m:=60) ?_
   walk_nrm
   repeat w_go gY.trans
   u_leave0 rZ gY.trans hF
   exact bn λ w r=>hE (k+1) w kr jb h1 h2 h0 ⟨((gY.trans hF r).blk _ (.inl (.inr rfl))).trans h3.1,h3.2⟩ λ b hb=>((gY.trans hF r).blk b (.inl (.inl hb))).trans (dz b hb)
  ·
   have fh:(u:Int)*KK≠8589934592:=by simp only[KK];omega
   refine⟨_,_,qP (qk rfl rfl (by k_ne) rfl cC.f_casU64 (x_casU64_n aD) (x_casU64_b aD) (x_casU64_x aD) .u64 (x_casU64_f aD) rfl rfl rfl iZ.cellSt (iZ.thaw 0) fh) yW,?_⟩
   show sR an ph F cF csF ⟨.w1,k,1,WS,RS,XS,_,_⟩
   clear iZ fh
   refine bV (by simp) (m:=60) ?_
   walk_nrm
   repeat w_nl KX.rely
   u_leave1 nS KX.rely hF
   repeat w_nl KX.rely
   u_c stepG_inLoop KX.rely hF
   exact bn λ _ r=>ih _ _ _ _ _ _ _ _ _ _ _ _ _ _ _ _ _ _ _ _ _ _ _ _ _ _ _ _ _ _ _ _ _ _ _ _ _ _ _ _ _ _ _ _ _ _ _ _ _ _ _ _ _ _ _ _ _ _ _ _ _ _ _ _ _ _ _ _ _ _ _ _ _ _ _ _ _ _ _ _ _ _ _ _ (KX.rely hF r)
theorem zif{args:Array bp}{qv:Array au}(ho:jk[C7]?=ab o)(hw:aR o (yielded jk nN.tmps)=ae)(hk:vh.kind≠.early)(cM:o.op=.call { callee:=.value (.func 71),args:=args,argTypes:=qv })
  (hx:args.map nN.eval=#[.pointer (ab ⟨ph.Wg,0,ak⟩)]) (hE:zc9 ph F cF csF WS XS w0 (G (vh.at (nN.put o.dst (.tuple #[])) (.inRegion jk mZ::Gv)) cs)) (k:Nat) {w:ai} (hF:KX ph 2 (λ b=>(WS b\/RS b)\/XS b) w0 w):
  sR an ph F cF csF ⟨.w1,k,0,WS,RS,XS,G (vh.at nN (.inRegion jk (C7::mZ)::Gv)) cs,w⟩:=by
 have zaP:nN.put o.dst (.tuple #[])=nN.put ((jk[C7]?).bind (·.dst)) (.tuple #[]):=by rw[ho];rfl
 rw[zaP] at hE
 have hH:=zkr (RS:=RS) (w0:=w0) hE k
 refine bV (by simp) (m:=61) ?_
 refine CL rfl (λ aJ O8=>?_)
 replace hF:=hF.rely O8
 clear O8
 rw[xK ho hw hk cM rZ nm_wait rfl]
 simp only[rz]
 refine⟨by u_nil,?_⟩
 rw[hx,enter_at _ rZ rfl]
 clear ho hw hk cM hx zaP hE
 walk_nrmf Tryz.f71
 repeat w_bar KX.rely
 refine bn (λ _ bA=>?_)
 replace hF:=KX.rely hF bA
 clear bA
 refine wB (d':=1) rfl (λ ed er=>⟨_,gk .disable (by simp) rfl rfl (by k_ne) rfl cC.f_disable (vP aD) (vN aD) (vQ aD) (vO aD),?_⟩) Y8 rfl
 replace hF:=KX.rely hF er
 clear er
 refine bV (by simp) (m:=30) ?_
 walk_nrm
 repeat w_bar KX.rely
 u_c stepG_loop KX.rely hF
 exact bn λ _ r=>hH _ _ _ _ _ _ _ _ _ _ _ _ _ _ _ _ _ _ _ _ _ _ _ _ _ _ _ _ _ _ _ _ _ _ _ _ _ _ _ _ _ _ _ _ _ _ _ _ _ _ _ _ _ _ _ _ _ _ _ _ _ _ _ _ _ _ _ _ _ _ _ _ _ _ _ _ _ _ _ _ _ _ _ _ (KX.rely hF r)
end
def dx(n:Nat):Ph:=⟨n+3,n+2,n+4,119,115,120,22⟩
theorem CE(n:Nat):(dx n).Ok:=⟨by simp[dx],by simp[dx],by simp[dx]⟩
theorem E8{n b:Nat}:(dx n).sh b↔b=n+2\/b=n+3\/b=n+4:=by
 unfold Ph.sh dx
 simp only
 omega
def F2(N:aG)(w0:ai)(R0:BR)(ph:Ph)(kr jb:Array aj)(i:Nat):(Nat->Prop)->(Nat->Prop)->ai->Prop:=
 FW N (aU N 17 #[.agg (if i=0 then kr else jb)] .normal) w0 R0 ph i
def cellAt(l zl zb:Array aj):Nat->Obj
 |0=>.cells l 38
 |1=>.cells zl 38
 |2=>.cells #[.int .u64 0,.int .u32 0] 115
 |3=>.cells #[.int .i32 0,.int .u32 0] 119
 |_=>.cells zb 120
structure SF(n:Nat)(W:ai)(R0:BR)(l zl zb:Array aj)(j:Nat)(w:ai):Prop where
 size:w.heap.size=n+j
 old:∀b,(∃a l,R0 a b l)->w.heap[b]?=W.heap[b]?
 new:∀i,i<j->w.heap[n+i]?=ab (cellAt l zl zb i)
section
variable{n j:Nat}{W w aJ w':ai}{R0:BR}{l zl zb:Array aj}{St:Nat->Prop}
theorem SF.rely(h:SF n W R0 l zl zb j w)(hS:∀b,(∃a l,R0 a b l)->St b)(hN:∀i,i<j->St (n+i))(r:RM (dx n) .st St w aJ):SF n W R0 l zl zb j aJ:=
 ⟨(r.2 rfl).trans h.size,λ b hb=>(r.1.blk b (hS b hb)).trans (h.old b hb),λ i hi=>(r.1.blk _ (hN i hi)).trans (h.new i hi)⟩
theorem SF.push(h:SF n W R0 l zl zb j w)(hR:∀b,(∃a l,R0 a b l)->b<n){o:Obj}(ho:o=cellAt l zl zb j)(e:w'={ w with heap:=w.heap.push o }):SF n W R0 l zl zb (j+1) w':=by
 subst e ho
 have hs:=h.size
 refine⟨by simp only[sG];omega,λ b hb=>?_,λ i hi=>?_⟩
 ·have:=hR b hb
  show (w.heap.push _)[b]?=_
  rw[bJ,if_neg (by omega)]
  exact h.old b hb
 ·show (w.heap.push _)[n+i]?=_
  rw[bJ]
  by_cases e:i=j
  ·subst e;rw[if_pos (by omega)]
  ·rw[if_neg (by omega)]
   exact h.new i (by omega)
end
section
variable{N:aG}{cF:aB}{csF:List aB}{w0 W:ai}{R0:BR}{kr jb An Ao:Array aj}
theorem zai(g:PG N an)(gp:GP N)(hf:∃fn,N.funcs[17]?=ab fn/\fn.body.isSome=ae)
  (hTA:Tree N (λ _ _ _=>False) LH (aU N 17 #[.agg kr] .normal) [] (VJ w0)) (hTB:Tree N (λ _ _ _=>False) LH (aU N 17 #[.agg jb] .normal) [] (VJ w0))
  (hR:HR R0 w0 W) (hxA:AV R0 kr An) (hxB:AV R0 jb Ao) (zza:AV (λ a b l=>a=b/\l=0/\wz w0 a) kr kr) (zzb:AV (λ a b l=>a=b/\l=0/\wz w0 a) jb jb)
  (hzA:An.size=22) (hzB:Ao.size=22) (h1A:An.all pP=ae) (h1B:Ao.all pP=ae) (k:Nat):
  sR an (dx W.heap.size) (F2 N w0 R0 (dx W.heap.size) kr jb) cF csF
   ⟨.st,k,0,λ _=>False,λ b=>∃a l,R0 a b l,(dx W.heap.size).sh,G (aU an 38 #[.agg (An++Ao)] .normal) (cF::csF),W⟩:=by
 obtain⟨dL,huL,hrL⟩:=any_some uLk
 obtain⟨dD,huD,hrD⟩:=any_some uDr
 obtain⟨zL,hL1,hL2⟩:=aN.1 zLk
 obtain⟨iL,hiL,hzL⟩:=cP.1 hL1
 obtain⟨zG,hG1,hG2⟩:=aN.1 zWg
 obtain⟨iG,hiG,hzG⟩:=cP.1 hG1
 obtain⟨zM,hM1,hM2⟩:=aN.1 zMu
 obtain⟨iM,hiM,hzM⟩:=cP.1 hM1
 obtain⟨zB,hB1,hB2⟩:=aN.1 zBo
 obtain⟨iB,hiB,zzw⟩:=cP.1 hB1
 obtain⟨zI,Ye,hI2⟩:=aN.1 zzN
 obtain⟨iI,hiI,hzI⟩:=cP.1 Ye
 obtain⟨zD,hD1,hD2⟩:=aN.1 zDr
 obtain⟨iD,hiD,hzD⟩:=cP.1 hD1
 have hsz:(An++Ao).size=44:=by simp[hzA,hzB]
 have Ys:(An++Ao).all pP=ae:=by rw[Array.all_append,h1A,h1B];rfl
 generalize hn:W.heap.size=n
 rw[enter_at _ Tryz.func38 rfl]
 walk_nrmf Tryz.f38
 have cj:∀b,(∃a l,R0 a b l)->b<n:=λ b ⟨a,l,r⟩=>hn▸(hR.lt r).2
 have hns:∀i,i<2->¬(dx n).sh (n+i):=λ i hi h=>by have:=E8.1 h;omega
 have S0:SF n W R0 (An++Ao) zL.cells zB.cells 0 W:=⟨hn,λ _ _=>rfl,λ i hi=>absurd hi (by omega)⟩
 refine A7 (m:=10) ?_ (λ g w h=>h w (RM.refl _))
 have hF:RM (dx n) .st (λ b=>(False\/∃a l,R0 a b l)\/(dx n).sh b) W W:=RM.refl _
 repeat w_go RM.trans
 refine bn (λ aJ bA=>?_)
 replace S0:=S0.rely (λ b hb=>.inl (.inr hb)) (λ i hi=>absurd hi (by omega)) (hF.trans bA)
 clear hF bA
 refine zmK rfl rfl (by k_ne) rfl rfl λ ed fY zzC er zo1 zo3=>?_
 replace S0:=S0.rely (λ b hb=>.inl (.inr hb)) (λ i hi=>absurd hi (by omega)) er
 obtain rfl:n=zzC:=S0.size.symm.trans zo1.symm
 have S1:=S0.push cj rfl zo3
 clear S0 zo1 zo3 er
 refine qL rfl rfl (by k_ne) rfl hiL hzL λ ed lS zaV er AT mg=>?_
 replace S1:=S1.rely (λ b hb=>.inl (.inr hb)) (λ i hi=>by
  obtain rfl:i=0:=by omega
  exact .inl (.inl (.inr ⟨rfl,hns 0 (by omega)⟩))) er
 obtain rfl:zaV=n+1:=AT.trans S1.size
 have S2:=S1.push cj rfl mg
 clear S1 AT mg er ed aJ
 walk_nrm
 refine A7 (m:=10) ?_ (λ g w h=>h w (RM.refl _))
 have hF:RM (dx n) .st (λ b=>(((False\/(b=n/\¬(dx n).sh b))\/(b=n+1/\¬(dx n).sh b))\/∃a l,R0 a b l)\/(dx n).sh b) lS lS:=RM.refl _
 repeat w_go RM.trans
 refine bn (λ aJ bA=>?_)
 have hN2:∀i,i<2->(((False\/(n+i=n/\¬(dx n).sh (n+i)))\/(n+i=n+1/\¬(dx n).sh (n+i)))\/∃a l,R0 a (n+i) l)\/(dx n).sh (n+i):=λ i hi=>by
  have h2:i=0\/i=1:=by omega
  rcases h2 with rfl|rfl
  ·exact .inl (.inl (.inl (.inr ⟨rfl,hns 0 (by omega)⟩)))
  ·exact .inl (.inl (.inr ⟨rfl,hns 1 (by omega)⟩))
 replace S2:=S2.rely (λ b hb=>.inl (.inr hb)) hN2 (hF.trans bA)
 clear hF bA
 refine qL rfl rfl (by k_ne) rfl hiG hzG λ ed lS zaV er AT mg=>?_
 replace S2:=S2.rely (λ b hb=>.inl (.inr hb)) hN2 er
 obtain rfl:zaV=n+2:=AT.trans S2.size
 have S3:=S2.push cj (by rw[hG2];rfl) mg
 clear S2 hN2 AT mg er ed aJ
 walk_nrm
 have hn2:(dx n).sh (n+2):=E8.2 (.inl rfl)
 have hn3:(dx n).sh (n+3):=E8.2 (.inr (.inl rfl))
 have hn4:(dx n).sh (n+4):=E8.2 (.inr (.inr rfl))
 refine A7 (m:=10) ?_ (λ g w h=>h w (RM.refl _))
 have hF:RM (dx n) .st (λ b=>((((False\/(b=n/\¬(dx n).sh b))\/(b=n+1/\¬(dx n).sh b))\/(b=n+2/\¬(dx n).sh b))\/∃a l,R0 a b l)\/(dx n).sh b) lS lS:=RM.refl _
 repeat w_go RM.trans
 refine bn (λ aJ bA=>?_)
 have hN3:∀i,i<3->((((False\/(n+i=n/\¬(dx n).sh (n+i)))\/(n+i=n+1/\¬(dx n).sh (n+i)))\/(n+i=n+2/\¬(dx n).sh (n+i)))\/∃a l,R0 a (n+i) l)\/(dx n).sh (n+i):=λ i hi=>by
  have h2:i=0\/i=1\/i=2:=by omega
  rcases h2 with rfl|rfl|rfl
  ·exact .inl (.inl (.inl (.inl (.inr ⟨rfl,hns 0 (by omega)⟩))))
  ·exact .inl (.inl (.inl (.inr ⟨rfl,hns 1 (by omega)⟩)))
  ·exact .inr hn2
 replace S3:=S3.rely (λ b hb=>.inl (.inr hb)) hN3 (hF.trans bA)
 clear hF bA
 refine qL rfl rfl (by k_ne) rfl hiM hzM λ ed lS zaV er AT mg=>?_
 replace S3:=S3.rely (λ b hb=>.inl (.inr hb)) hN3 er
 obtain rfl:zaV=n+3:=AT.trans S3.size
 have S4:=S3.push cj (by rw[hM2];rfl) mg
 clear S3 hN3 AT mg er ed aJ
 walk_nrm
 refine A7 (m:=10) ?_ (λ g w h=>h w (RM.refl _))
 have hF:RM (dx n) .st (λ b=>(((((False\/(b=n/\¬(dx n).sh b))\/(b=n+1/\¬(dx n).sh b))\/(b=n+2/\¬(dx n).sh b))\/(b=n+3/\¬(dx n).sh b))\/∃a l,R0 a b l)\/(dx n).sh b) lS lS:=RM.refl _
 repeat w_go RM.trans
 refine bn (λ aJ bA=>?_)
 have hN4:∀i,i<4->(((((False\/(n+i=n/\¬(dx n).sh (n+i)))\/(n+i=n+1/\¬(dx n).sh (n+i)))\/(n+i=n+2/\¬(dx n).sh (n+i)))\/(n+i=n+3/\¬(dx n).sh (n+i)))\/∃a l,R0 a (n+i) l)\/(dx n).sh (n+i):=λ i hi=>by
  have h2:i=0\/i=1\/i=2\/i=3:=by omega
  rcases h2 with rfl|rfl|rfl|rfl
  ·exact .inl (.inl (.inl (.inl (.inl (.inr ⟨rfl,hns 0 (by omega)⟩)))))
  ·exact .inl (.inl (.inl (.inl (.inr ⟨rfl,hns 1 (by omega)⟩))))
  ·exact .inr hn2
  ·exact .inr hn3
 replace S4:=S4.rely (λ b hb=>.inl (.inr hb)) hN4 (hF.trans bA)
 clear hF bA
 have hWS:(λ b=>((((False\/(b=n/\¬(dx n).sh b))\/(b=n+1/\¬(dx n).sh b))\/(b=n+2/\¬(dx n).sh b))\/(b=n+3/\¬(dx n).sh b)))=λ b=>b=n\/b=n+1:=by
  funext b
  apply propext
  constructor
  ·rintro ((((h|⟨h,_⟩)|⟨h,_⟩)|⟨rfl,h⟩)|⟨rfl,h⟩)
   ·exact h.elim
   ·exact .inl h
   ·exact .inr h
   ·exact absurd hn2 h
   ·exact absurd hn3 h
  ·rintro (rfl|rfl)
   ·exact .inl (.inl (.inl (.inr ⟨rfl,hns 0 (by omega)⟩)))
   ·exact .inl (.inl (.inr ⟨rfl,hns 1 (by omega)⟩))
 refine zmL rfl rfl (by k_ne) rfl hiB zzw (λ ed er=>?_) (λ ed fY er e=>?_) λ ed lS zaV er AT mg=>?_
 ·have:=S4.rely (λ b hb=>.inl (.inr hb)) hN4 er
  rw[this.size];exact hn4
 ·have S5:=(S4.rely (λ b hb=>.inl (.inr hb)) hN4 er).push cj rfl e
  exact⟨S5.new 3 (by omega),S5.new 2 (by omega),zB.cells,S5.new 4 (by omega),hB2⟩
 replace S4:=S4.rely (λ b hb=>.inl (.inr hb)) hN4 er
 obtain rfl:zaV=n+4:=AT.trans S4.size
 have S5:=S4.push cj rfl mg
 clear S4 hN4 AT mg er ed aJ
 rw[hWS]
 clear hWS
 walk_nrm
 have zux:lS.heap[n]?=ab (.cells (An++Ao) 38):=S5.new 0 (by omega)
 have qE:lS.heap[n+1]?=ab (.cells zL.cells 38):=S5.new 1 (by omega)
 have hold:=S5.old
 have hF:KX (dx n) 2 (λ b=>((b=n\/b=n+1)\/∃a l,R0 a b l)\/Yj b) lS lS:=by
  refine⟨CE n,λ b hb hs=>?_,gY.refl _ _,⟨⟨_,_,S5.new 3 (by omega)⟩,⟨_,_,S5.new 2 (by omega)⟩,⟨_,S5.new 4 (by omega),hB2⟩⟩⟩
  have h3:=E8.1 hs
  rcases hb with((rfl|rfl)|hb)|hb
  ·omega
  ·omega
  ·have:=cj b hb;omega
  ·exact hb.elim
 clear S5
 refine bV (by simp) (m:=20) ?_
 repeat w_go KX.rely
 refine bn (λ aJ bA=>?_)
 replace hF:=KX.rely hF bA
 clear bA
 refine G9 rfl rfl (by k_ne) rfl rfl (.inl (.inl rfl)) ((hF.r.blk n (.inl (.inl (.inl rfl)))).trans zux) huD hrD sDr (by omega) λ ed er=>?_
 replace hF:=KX.rely hF er.1
 clear er aJ
 rw[show (0+22)=22 from rfl,zg7 hzA]
 walk_nrm
 refine bV (by simp) (m:=20) ?_
 repeat w_go KX.rely
 refine bn (λ aJ bA=>?_)
 replace hF:=KX.rely hF bA
 clear bA
 refine G9 rfl rfl (by k_ne) rfl rfl (.inl (.inl rfl)) ((hF.r.blk n (.inl (.inl (.inl rfl)))).trans zux) huD hrD sDr (by omega) λ ed er=>?_
 replace hF:=KX.rely hF er.1
 clear er aJ
 rw[show (22+22)=44 from rfl,zg8 hzA hzB]
 walk_nrm
 refine CM (v:=.agg (An++Ao)) rfl rfl (by k_ne) (λ w=>Za rfl (by simp[bX]) (zjm hzA hzB w _)) λ aJ bA=>?_
 replace hF:=KX.rely hF bA.1
 clear bA ed
 walk_nrm
 refine bV (by simp) (m:=60) ?_
 repeat w_go KX.rely
 refine bn (λ aJ bA=>?_)
 replace hF:=KX.rely hF bA
 clear bA
 refine CM (v:=.agg An) rfl rfl (by k_ne) (λ w=>Zb rfl (zdD hzA hzB w _).1) λ ed bA=>?_
 replace hF:=KX.rely hF bA.1
 clear bA aJ
 walk_nrm
 refine qL rfl rfl (by k_ne) rfl hiI hzI λ fY sE oW eR hm AU=>?_
 replace hF:=KX.rely hF eR.1
 have pQ:¬(dx n).sh oW:=λ h=>by have:=hF.l.lt h;omega
 have hmn:n+1<oW:=by rw[hm];exact(ah.1 ((hF.r.blk (n+1) (.inl (.inl (.inr rfl)))).trans qE)).1
 replace qE:sE.heap[n+1]?=ab (.cells zL.cells 38):=by rw[AU];exact tx ((hF.r.blk (n+1) (.inl (.inl (.inr rfl)))).trans qE)
 have O2:sE.heap[oW]?=ab (.cells #[.int .i64 0] 3):=by
  rw[AU,hm]
  show (fY.heap.push _)[fY.heap.size]?=_
  rw[hI2]
  simp
 replace hold:∀b,(∃a l,R0 a b l)->sE.heap[b]?=W.heap[b]?:=λ b hb=>by
  rw[AU]
  show (fY.heap.push _)[b]?=_
  rw[bJ,if_neg (by have:=cj b hb;omega)]
  exact(hF.r.blk b (.inl (.inr hb))).trans (hold b hb)
 replace hF:=hF.push (m:=oW) AU
 clear eR hm AU ed fY
 walk_nrm
 refine qL rfl rfl (by k_ne) rfl hiD hzD λ fY lS m₁ eR hm mg=>?_
 replace hF:=KX.rely hF eR.1
 have rM:¬(dx n).sh m₁:=λ h=>by have:=hF.l.lt h;omega
 have zaQ:=(hF.r.blk oW (.inl (.inl (.inr ⟨rfl,pQ⟩)))).trans O2
 have zq4:oW<m₁:=by rw[hm];exact(ah.1 zaQ).1
 replace qE:lS.heap[n+1]?=ab (.cells zL.cells 38):=by rw[mg];exact tx ((hF.r.blk (n+1) (.inl (.inl (.inl (.inr rfl))))).trans qE)
 replace O2:lS.heap[oW]?=ab (.cells #[.int .i64 0] 3):=by rw[mg];exact tx zaQ
 have X7:lS.heap[m₁]?=ab (.cells zD.cells 36):=by
  rw[mg,hm]
  show (fY.heap.push _)[fY.heap.size]?=_
  simp
 replace hold:∀b,(∃a l,R0 a b l)->lS.heap[b]?=W.heap[b]?:=λ b hb=>by
  rw[mg]
  show (fY.heap.push _)[b]?=_
  rw[bJ,if_neg (by have:=cj b hb;omega)]
  exact(hF.r.blk b (.inl (.inr hb))).trans (hold b hb)
 replace hF:=hF.push (m:=m₁) mg
 clear eR hm mg zaQ fY sE
 walk_nrm
 refine P6 rfl rfl (by k_ne) rfl rfl rfl (.inl (.inr ⟨rfl,pQ⟩)) pQ O2 zuT (by simp) rfl λ fY sE eR q1 q2 q3=>?_
 replace hF:=KX.rely hF eR.1
 replace qE:=(q2 (n+1) (by omega)).trans ((hF.r.blk (n+1) (.inl (.inl (.inl (.inl (.inr rfl)))))).trans qE)
 replace X7:=(q2 m₁ (by omega)).trans ((hF.r.blk m₁ (.inl (.inl (.inr ⟨rfl,rM⟩)))).trans X7)
 replace hold:∀b,(∃a l,R0 a b l)->sE.heap[b]?=W.heap[b]?:=λ b hb=>(q2 b (by have:=cj b hb;omega)).trans ((hF.r.blk b (.inl (.inr hb))).trans (hold b hb))
 replace O2:sE.heap[oW]?=ab (.cells #[.int .i64 0] 3):=q1
 replace hF:=hF.stored pQ q2
 clear eR q1 q2 q3 fY lS
 walk_nrm
 refine JS rfl rfl (by k_ne) rfl rfl rfl (.inr ⟨rfl,rM⟩) rM X7 sDr hzA (by omega) h1A λ fY lS eR q1 q2 q3=>?_
 replace hF:=KX.rely hF eR.1
 replace qE:=(q2 (n+1) (by omega)).trans ((hF.r.blk (n+1) (.inl (.inl (.inl (.inl (.inr rfl)))))).trans qE)
 replace O2:=(q2 oW (by omega)).trans ((hF.r.blk oW (.inl (.inl (.inl (.inr ⟨rfl,pQ⟩))))).trans O2)
 replace hold:∀b,(∃a l,R0 a b l)->lS.heap[b]?=W.heap[b]?:=λ b hb=>(q2 b (by have:=cj b hb;omega)).trans ((hF.r.blk b (.inl (.inr hb))).trans (hold b hb))
 replace X7:lS.heap[m₁]?=ab (.cells An 36):=by
  rw[q1]
  congr 2
  apply fj
  simp[eZ,hD2]
 replace hF:=hF.stored rM q2
 clear eR q1 q2 q3 fY sE
 walk_nrm
 refine bV (by simp) (m:=20) ?_
 repeat w_go KX.rely
 refine bn (λ fY eR=>?_)
 refine zdf (w0:=lS) rfl rfl rfl (by k_ne) rfl (by simp[bX];rfl) (λ sE YG=>?_) (KX.rely hF eR)
 clear eR fY
 replace hF:=YG
 clear YG
 walk_nrm
 refine bV (by simp) (m:=20) ?_
 repeat w_go KX.rely
 refine bn (λ fY eR=>?_)
 replace hF:=KX.rely hF eR
 clear eR
 refine iA (λ _=>rfl) λ GF eR=>?_
 replace hF:=KX.rely hF eR.1
 clear eR
 replace qE:=(hF.r.blk (n+1) (.inl (.inl (.inl (.inl (.inr rfl)))))).trans qE
 replace O2:=(hF.r.blk oW (.inl (.inl (.inl (.inr ⟨rfl,pQ⟩))))).trans O2
 replace X7:=(hF.r.blk m₁ (.inl (.inl (.inr ⟨rfl,rM⟩)))).trans X7
 replace hold:∀b,(∃a l,R0 a b l)->GF.heap[b]?=W.heap[b]?:=λ b hb=>(hF.r.blk b (.inl (.inr hb))).trans (hold b hb)
 have hl6:=hF.l
 have dz:∀b,((((b=n\/b=n+1)\/(b=oW/\¬(dx n).sh b))\/(b=m₁/\¬(dx n).sh b))\/∃a l,R0 a b l)\/Yj b->¬(dx n).sh b:=hF.st
 clear hF
 refine .go 0 rfl (by omega) rfl _ _ (λ b=>(∃a l,R0 a b l)\/b=m₁\/b=oW) (λ b=>b=n\/b=n+1)
  ((stepG_spawn (d:=yV (dx n) m₁ oW) (w':=GF) (f:=.func 67) (c:=#[.pointer (ab ⟨(dx n).Wg,0,ak⟩),.pointer (ab ⟨m₁,0,ak⟩),.pointer (ab ⟨(dx n).Mu,0,ak⟩),.pointer (ab ⟨(dx n).Bo,0,ak⟩),.pointer (ab ⟨oW,0,ak⟩)]) rfl rfl (by k_ne) (by simp[go_sem,yV,iC,dx]) rfl).trans
   (congrArg _ (pO.2 λ e he=>by
    have hm:=mem_listed he
    simp[go_sem,iC] at hm))) rfl (λ b hb=>?_) (λ b hb=>⟨.inl (.inl hb),λ h=>?_⟩) (λ kc=>?_) ?_
 ·rcases hb with hb|rfl|rfl
  ·exact .inr hb
  ·exact .inl (.inr ⟨rfl,rM⟩)
  ·exact .inl (.inl (.inr ⟨rfl,pQ⟩))
 ·rcases h with h|h|h
  ·have:=cj b h;omega
  ·omega
  ·omega
 ·refine VB (csG:=kr) (csR:=An) (R0:=R0) (s:=0) g gp (CE n) rfl rfl (by omega) hf hTA (hR.right λ a b l r=>hold b ⟨a,l,r⟩) hxA zza hzA X7 (by simp[World.cell?,O2]) (λ b hb=>.inl hb) (.inr (.inl rfl)) (.inr (.inr rfl)) (λ b hb=>?_) hl6 kc
  rcases hb with hb|rfl|rfl
  ·exact dz b (.inl (.inr hb))
  ·exact rM
  ·exact pQ
 show sR an (dx n) (F2 N w0 R0 (dx n) kr jb) cF csF ⟨.ad 1,k,0,λ b=>b=n\/b=n+1,λ b=>∃a l,R0 a b l,Yj,_,GF⟩
 have hF:KX (dx n) 2 (λ b=>((b=n\/b=n+1)\/∃a l,R0 a b l)\/Yj b) GF GF:=
  ⟨CE n,λ b hb=>dz b (hb.imp (λ h=>h.imp (λ h=>.inl (.inl h)) id) id),gY.refl _ _,hl6⟩
 clear dz hl6 O2 X7 pQ rM hmn zq4 lS
 walk_nrm
 refine bV (by simp) (m:=60) ?_
 repeat w_go KX.rely
 refine bn (λ aJ bA=>?_)
 replace hF:=KX.rely hF bA
 clear bA
 refine CM (v:=.agg Ao) rfl rfl (by k_ne) (λ w=>Zb rfl (zdD hzA hzB w _).2) λ ed bA=>?_
 replace hF:=KX.rely hF bA.1
 clear bA aJ
 walk_nrm
 refine qL rfl rfl (by k_ne) rfl hiI hzI λ fY sE oW eR hm AU=>?_
 replace hF:=KX.rely hF eR.1
 have pQ:¬(dx n).sh oW:=λ h=>by have:=hF.l.lt h;omega
 have hmn:n+1<oW:=by rw[hm];exact(ah.1 ((hF.r.blk (n+1) (.inl (.inl (.inr rfl)))).trans qE)).1
 replace qE:sE.heap[n+1]?=ab (.cells zL.cells 38):=by rw[AU];exact tx ((hF.r.blk (n+1) (.inl (.inl (.inr rfl)))).trans qE)
 have O2:sE.heap[oW]?=ab (.cells #[.int .i64 0] 3):=by
  rw[AU,hm]
  show (fY.heap.push _)[fY.heap.size]?=_
  rw[hI2]
  simp
 replace hold:∀b,(∃a l,R0 a b l)->sE.heap[b]?=W.heap[b]?:=λ b hb=>by
  rw[AU]
  show (fY.heap.push _)[b]?=_
  rw[bJ,if_neg (by have:=cj b hb;omega)]
  exact(hF.r.blk b (.inl (.inr hb))).trans (hold b hb)
 replace hF:=hF.push (m:=oW) AU
 clear eR hm AU ed fY
 walk_nrm
 refine qL rfl rfl (by k_ne) rfl hiD hzD λ fY lS m₁ eR hm mg=>?_
 replace hF:=KX.rely hF eR.1
 have rM:¬(dx n).sh m₁:=λ h=>by have:=hF.l.lt h;omega
 have zaQ:=(hF.r.blk oW (.inl (.inl (.inr ⟨rfl,pQ⟩)))).trans O2
 have zq4:oW<m₁:=by rw[hm];exact(ah.1 zaQ).1
 replace qE:lS.heap[n+1]?=ab (.cells zL.cells 38):=by rw[mg];exact tx ((hF.r.blk (n+1) (.inl (.inl (.inl (.inr rfl))))).trans qE)
 replace O2:lS.heap[oW]?=ab (.cells #[.int .i64 0] 3):=by rw[mg];exact tx zaQ
 have X7:lS.heap[m₁]?=ab (.cells zD.cells 36):=by
  rw[mg,hm]
  show (fY.heap.push _)[fY.heap.size]?=_
  simp
 replace hold:∀b,(∃a l,R0 a b l)->lS.heap[b]?=W.heap[b]?:=λ b hb=>by
  rw[mg]
  show (fY.heap.push _)[b]?=_
  rw[bJ,if_neg (by have:=cj b hb;omega)]
  exact(hF.r.blk b (.inl (.inr hb))).trans (hold b hb)
 replace hF:=hF.push (m:=m₁) mg
 clear eR hm mg zaQ fY sE
 walk_nrm
 refine P6 rfl rfl (by k_ne) rfl rfl rfl (.inl (.inr ⟨rfl,pQ⟩)) pQ O2 zuT (by simp) rfl λ fY sE eR q1 q2 q3=>?_
 replace hF:=KX.rely hF eR.1
 replace qE:=(q2 (n+1) (by omega)).trans ((hF.r.blk (n+1) (.inl (.inl (.inl (.inl (.inr rfl)))))).trans qE)
 replace X7:=(q2 m₁ (by omega)).trans ((hF.r.blk m₁ (.inl (.inl (.inr ⟨rfl,rM⟩)))).trans X7)
 replace hold:∀b,(∃a l,R0 a b l)->sE.heap[b]?=W.heap[b]?:=λ b hb=>(q2 b (by have:=cj b hb;omega)).trans ((hF.r.blk b (.inl (.inr hb))).trans (hold b hb))
 replace O2:sE.heap[oW]?=ab (.cells #[.int .i64 1] 3):=q1
 replace hF:=hF.stored pQ q2
 clear eR q1 q2 q3 fY lS
 walk_nrm
 refine JS rfl rfl (by k_ne) rfl rfl rfl (.inr ⟨rfl,rM⟩) rM X7 sDr hzB (by omega) h1B λ fY lS eR q1 q2 q3=>?_
 replace hF:=KX.rely hF eR.1
 replace qE:=(q2 (n+1) (by omega)).trans ((hF.r.blk (n+1) (.inl (.inl (.inl (.inl (.inr rfl)))))).trans qE)
 replace O2:=(q2 oW (by omega)).trans ((hF.r.blk oW (.inl (.inl (.inl (.inr ⟨rfl,pQ⟩))))).trans O2)
 replace hold:∀b,(∃a l,R0 a b l)->lS.heap[b]?=W.heap[b]?:=λ b hb=>(q2 b (by have:=cj b hb;omega)).trans ((hF.r.blk b (.inl (.inr hb))).trans (hold b hb))
 replace X7:lS.heap[m₁]?=ab (.cells Ao 36):=by
  rw[q1]
  congr 2
  apply fj
  simp[eZ,hD2]
 replace hF:=hF.stored rM q2
 clear eR q1 q2 q3 fY sE
 walk_nrm
 refine bV (by simp) (m:=20) ?_
 repeat w_go KX.rely
 refine bn (λ fY eR=>?_)
 refine zdf (w0:=lS) rfl rfl rfl (by k_ne) rfl (by simp[bX];rfl) (λ sE YG=>?_) (KX.rely hF eR)
 clear eR fY
 replace hF:=YG
 clear YG
 walk_nrm
 refine bV (by simp) (m:=20) ?_
 repeat w_go KX.rely
 refine bn (λ fY eR=>?_)
 replace hF:=KX.rely hF eR
 clear eR
 refine iA (λ _=>rfl) λ GF eR=>?_
 replace hF:=KX.rely hF eR.1
 clear eR
 replace qE:=(hF.r.blk (n+1) (.inl (.inl (.inl (.inl (.inr rfl)))))).trans qE
 replace O2:=(hF.r.blk oW (.inl (.inl (.inl (.inr ⟨rfl,pQ⟩))))).trans O2
 replace X7:=(hF.r.blk m₁ (.inl (.inl (.inr ⟨rfl,rM⟩)))).trans X7
 replace hold:∀b,(∃a l,R0 a b l)->GF.heap[b]?=W.heap[b]?:=λ b hb=>(hF.r.blk b (.inl (.inr hb))).trans (hold b hb)
 have hl6:=hF.l
 have dz:∀b,((((b=n\/b=n+1)\/(b=oW/\¬(dx n).sh b))\/(b=m₁/\¬(dx n).sh b))\/∃a l,R0 a b l)\/Yj b->¬(dx n).sh b:=hF.st
 clear hF
 refine .go 1 rfl (by omega) rfl _ _ (λ b=>(∃a l,R0 a b l)\/b=m₁\/b=oW) (λ b=>b=n\/b=n+1)
  ((stepG_spawn (d:=yV (dx n) m₁ oW) (w':=GF) (f:=.func 67) (c:=#[.pointer (ab ⟨(dx n).Wg,0,ak⟩),.pointer (ab ⟨m₁,0,ak⟩),.pointer (ab ⟨(dx n).Mu,0,ak⟩),.pointer (ab ⟨(dx n).Bo,0,ak⟩),.pointer (ab ⟨oW,0,ak⟩)]) rfl rfl (by k_ne) (by simp[go_sem,yV,iC,dx]) rfl).trans
   (congrArg _ (pO.2 λ e he=>by
    have hm:=mem_listed he
    simp[go_sem,iC] at hm))) rfl (λ b hb=>?_) (λ b hb=>⟨.inl (.inl hb),λ h=>?_⟩) (λ kc=>?_) ?_
 ·rcases hb with hb|rfl|rfl
  ·exact .inr hb
  ·exact .inl (.inr ⟨rfl,rM⟩)
  ·exact .inl (.inl (.inr ⟨rfl,pQ⟩))
 ·rcases h with h|h|h
  ·have:=cj b h;omega
  ·omega
  ·omega
 ·refine VB (csG:=jb) (csR:=Ao) (R0:=R0) (s:=1) g gp (CE n) rfl rfl (by omega) hf hTB (hR.right λ a b l r=>hold b ⟨a,l,r⟩) hxB zzb hzB X7 (by simp[World.cell?,O2]) (λ b hb=>.inl hb) (.inr (.inl rfl)) (.inr (.inr rfl)) (λ b hb=>?_) hl6 kc
  rcases hb with hb|rfl|rfl
  ·exact dz b (.inl (.inr hb))
  ·exact rM
  ·exact pQ
 show sR an (dx n) (F2 N w0 R0 (dx n) kr jb) cF csF ⟨.w1,k,0,λ b=>b=n\/b=n+1,λ b=>∃a l,R0 a b l,Yj,_,GF⟩
 have hF:KX (dx n) 2 (λ b=>((b=n\/b=n+1)\/∃a l,R0 a b l)\/Yj b) GF GF:=
  ⟨CE n,λ b hb=>dz b (hb.imp (λ h=>h.imp (λ h=>.inl (.inl h)) id) id),gY.refl _ _,hl6⟩
 clear dz hl6 O2 X7 pQ rM hmn zq4 lS
 walk_nrm
 refine bV (by simp) (m:=60) ?_
 repeat w_go KX.rely
 refine bn (λ fY eR=>?_)
 refine zif (w0:=GF) rfl rfl (by k_ne) rfl (by simp[bX];rfl) (λ k w OY Jq z1 z2 z3 z4 z5=>?_) k (KX.rely hF eR)
 clear hF eR fY
 walk_nrm
 have hzO:OY.size=22:=z1
 have hzP:Jq.size=22:=z2
 have zuJ:(OY++Jq).size=44:=by simp[hzO,hzP]
 have hbo:w.heap[n+4]?=ab (.cells (OY++Jq) 120):=z4.1
 replace qE:=(z5 (n+1) (.inr rfl)).trans qE
 clear z1 z2 z4 z5 hold
 have hF:gY (dx n) 2 (λ b=>((b=n\/b=n+1)\/b=(dx n).Bo)\/Yj b) w w:=gY.refl _ _
 refine bV (by simp) (m:=20) ?_
 repeat w_go gY.trans
 refine bn (λ aJ bA=>?_)
 replace hF:=gY.trans hF bA
 clear bA
 refine YV (v:=.pointer (ab ⟨n+4,0,ak⟩)) rfl rfl (by k_ne) (λ w=>by unfold bd;simp[go_sem,bX]) (λ w=>by unfold bd;simp[go_sem,bX,iP,bZ]) λ ed er=>?_
 replace hF:=gY.trans hF er.1
 clear er
 walk_nrm
 refine G9 rfl rfl (by k_ne) rfl rfl (.inr rfl) ((hF.blk (n+4) (.inl (.inr rfl))).trans hbo) huD hrD sDr (by omega) λ ed er=>?_
 replace hF:=gY.trans hF er.1
 clear er
 rw[show (0+22)=22 from rfl,zg7 hzO]
 walk_nrm
 refine bV (by simp) (m:=20) ?_
 repeat w_go gY.trans
 refine bn (λ aJ bA=>?_)
 replace hF:=gY.trans hF bA
 clear bA
 refine YV (v:=.pointer (ab ⟨n+4,22,ak⟩)) rfl rfl (by k_ne) (λ w=>by unfold bd;simp[go_sem,bX]) (λ w=>by unfold bd;simp[go_sem,bX,iP,bZ]) λ ed er=>?_
 replace hF:=gY.trans hF er.1
 clear er
 walk_nrm
 refine G9 rfl rfl (by k_ne) rfl rfl (.inr rfl) ((hF.blk (n+4) (.inl (.inr rfl))).trans hbo) huD hrD sDr (by omega) λ ed er=>?_
 replace hF:=gY.trans hF er.1
 clear er
 rw[show (22+22)=44 from rfl,zg8 hzO hzP]
 walk_nrm
 refine CM (v:=.agg (OY++Jq)) rfl rfl (by k_ne) (λ w=>Za rfl (by simp[bX]) (zjn hzO hzP w _)) λ aJ bA=>?_
 replace hF:=gY.trans hF bA.1
 clear bA
 walk_nrm
 refine JS rfl rfl (by k_ne) rfl rfl rfl (.inr rfl) (hns 1 (by omega)) ((hF.blk (n+1) (.inl (.inl (.inr rfl)))).trans qE) sLk zuJ (by omega) z3 λ ed fY er q1 q2 q3=>?_
 replace qE:fY.heap[n+1]?=ab (.cells (OY++Jq) 38):=by
  rw[q1]
  congr 2
  apply fj
  simp[eZ,hL2]
 clear hF er q1 q2 q3
 have hF:gY (dx n) 2 (λ b=>((b=n\/b=n+1)\/b=(dx n).Bo)\/Yj b) fY fY:=gY.refl _ _
 walk_nrm
 refine bV (by simp) (m:=20) ?_
 repeat w_go gY.trans
 refine bn (λ aJ bA=>?_)
 replace hF:=gY.trans hF bA
 clear bA
 refine zeq (d:=0) rfl rfl Tryz.func38 rfl rfl (.inl (.inr rfl)) ((hF.blk (n+1) (.inl (.inl (.inr rfl)))).trans qE) huL hrL sLk (by omega) λ ed er=>?_
 have hall:(OY++Jq).extract 0 (0+44)=OY++Jq:=by
  apply fj
  simp only[cD,bI,fL,jH,fQ]
  exact bq (by simpa using dh zuJ)
 rw[hall]
 exact iA (λ _=>rfl) λ fY _=>.fin OY Jq rfl rfl rfl
end
end Rn
namespace Rn
open Go Go.Conc Go.ConcM
open Go.ConcN (sumTo upd upd_same upd_ne sumTo_congr sumTo_upd)
open Go.ConcR (KK WgAt stA smA rd wr mk DC0)
inductive xh(P:aG)(O:aB->ai->(aB->ai->Prop)->Prop)(Fin:aj->ai->Prop):Rk->aB->List aB->ai->Prop
 |mk {r:Rk} {fr:aB} {L:List aB} {w:ai} (ρ:aB->List aB->ai->Rk)
   (ok:∀T d,(∃v w1 es,eG P fr L (World.on w T d)=.ret v w1 es/\Fin v w1)\/∃fr1 L1 w1 es acts,eG P fr L (World.on w T d)=.next fr1 L1 w1 es acts)
   (lt:∀fr1 L1 w1,Rk.lt (ρ fr1 L1 w1) r)
   (nx:∀T d fr1 L1 w1 es acts,eG P fr L (World.on w T d)=.next fr1 L1 w1 es acts->xh P O Fin (ρ fr1 L1 w1) fr1 L1 w1):xh P O Fin r fr L w
 |ask {r r1:Rk} {fr:aB} {L:List aB} {w:ai} (S:aB->ai->Prop) (h:O fr w S) (h1:Rk.lt r1 r) (ρ:aB->ai->Rk) (lt:∀fr1 w1,Rk.lt (ρ fr1 w1) r1)
   (k:∀fr1 w1,S fr1 w1->Rel P ⟨fr1,L,w1⟩->xh P O Fin (ρ fr1 w1) fr1 L w1):xh P O Fin r fr L w
def Rk.bot:Rk:=.nd Empty (λ x=>x.elim)
theorem zak{P:aG}{O:aB->ai->(aB->ai->Prop)->Prop}{Fin:aj->ai->Prop}{fr:aB}{L:List aB}{w:ai}(h:Tree P O Fin fr L w):∃r,xh P O Fin r fr L w:=by
 induction h with
 |@mk fr L w ok nx ih=>
  let ρ:aB->List aB->ai->Rk:=λ fr1 L1 w1=>open Classical in if h:∃r,xh P O Fin r fr1 L1 w1 then dk h else Rk.bot
  refine⟨.nd (aB×List aB×ai) (λ p=>ρ p.1 p.2.1 p.2.2),.mk ρ ok (λ fr1 L1 w1=>⟨(fr1,L1,w1),rfl⟩) λ T d fr1 L1 w1 es acts hs=>?_⟩
  have hx:=ih T d fr1 L1 w1 es acts hs
  have e:ρ fr1 L1 w1=dk hx:=dif_pos hx
  rw[e]
  exact ep hx
 |@ask fr L w S h k ih=>
  let ρ:aB->ai->Rk:=λ fr1 w1=>open Classical in if h:∃r,xh P O Fin r fr1 L w1 then dk h else Rk.bot
  refine⟨.nd Unit (λ _=>.nd (aB×ai) (λ p=>ρ p.1 p.2)),.ask S h ⟨(),rfl⟩ ρ (λ fr1 w1=>⟨(fr1,w1),rfl⟩) λ fr1 w1 hs hr=>?_⟩
  have hx:=ih fr1 w1 hs hr
  have e:ρ fr1 w1=dk hx:=dif_pos hx
  rw[e]
  exact ep hx
abbrev UH(w:ai):BR:=λ a b l=>a=b/\l=0/\wz w a
abbrev dsF(N:aG)(cs:Array aj):aB:=aU N 17 #[.agg cs] .normal
def lN(N:aG)(fr:aB)(w:ai)(S:aB->ai->Prop):Prop:=
 ∃(b:aB) (a:Act) (ops:Array Oper) (i:Nat) (rest:List Nat) (kk:List Item) (o:Oper) (x:bp) (qv:Array au) (kr jb:Array aj),
  fr=b.at a (.inRegion ops (i::rest)::kk)/\ops[i]?=ab o/\aR o (yielded ops a.tmps)=ae/\o.op=.call { callee:=.value (.func 38),args:=#[x],argTypes:=qv }/\u7 x=ae/\a.eval x=.agg (kr++jb)/\
  (kr.size=22/\jb.size=22/\kr.all pP=ae/\jb.all pP=ae)/\AV (UH w) kr kr/\AV (UH w) jb jb/\
  Tree N (λ _ _ _=>False) LH (dsF N kr) [] (VJ w)/\Tree N (λ _ _ _=>False) LH (dsF N jb) [] (VJ w)/\
  S=λ fr1 w1=>∃T d Jq x1 y1 wA csQ x2 y2,VY N (dsF N kr) (World.on w T d) (.tuple #[.agg Jq,x1,y1]) wA/\VY N (dsF N jb) wA (.tuple #[.agg csQ,x2,y2]) w1/\Jq.size=22/\csQ.size=22/\fr1=fr.finish (.agg (Jq++csQ))
theorem zrr{N:aG}(fr:aB)(w:ai)(S:aB->ai->Prop)(T:Nat->Question->Nat)(d:Nat)(h:lN N fr w S):lN N fr (World.on w T d) S:=by
 obtain⟨b,a,ops,i,rest,kk,o,x,qv,kr,jb,h1,h2,h3,h4,h5,h6,h7,h8,h9,vc,Ju,Yd⟩:=h
 exact⟨b,a,ops,i,rest,kk,o,x,qv,kr,jb,h1,h2,h3,h4,h5,h6,h7,h8,h9,vc.on (λ _ _ _ _ _ h=>h) T d,Ju.on (λ _ _ _ _ _ h=>h) T d,Yd⟩
def ve(P:aG)(gs:Array aI)(t:pk)(Lv:Nat->Prop)(q:Nat->Nat):Prop:=∀i g,i≠0->¬Lv i->gs[i]?=ab g->∃d,nm P (q i) d g/\Deaf t i=d
section
variable{P:aG}{gs gs':Array aI}{t u:pk}{Lv Lv':Nat->Prop}{q:Nat->Nat}{w w':ai}{k:Nat}{g g':aI}{es:Array bT}{acts:List jX}
theorem ve.app(h:ve P gs t Lv q)(hu:∀op∈u,op.g=k)(hk:k=0\/Lv k):ve P gs (t++u) Lv q:=λ i g h0 hn hg=>by
 obtain⟨d,h1,h2⟩:=h i g h0 hn hg
 refine⟨d,h1,?_⟩
 have fh:k≠i:=λ e=>by
  rcases hk with hk|hk
  ·exact h0 (e▸hk)
  ·exact hn (e▸hk)
 rw[nC t fh u hu]
 exact h2
variable{n:Nat}{f:aI->aI}
theorem zbR{d:Nat}{g:aI}(hq:nm P n d g)(hf:Wk w' f):f g=g:=by
 rcases hf g with e|e
 ·exact e
 ·rw[e];exact wM _ hq.status
theorem rU(i:Nat)(h:i≠k):((gs.map f).setIfInBounds k g')[i]?=(gs[i]?).map f:=by
 rw[bt (dr h)]
 simp
theorem gX(h:k<gs.size):((gs.map f).setIfInBounds k g')[k]?=ab g':=by simp[h]
theorem ve.move(h:ve P gs t Lv q)(hf:Wk w' f)(hk:k=0\/Lv k):ve P ((gs.map f).setIfInBounds k g') t Lv q:=λ i g h0 hn hg=>by
 have fh:i≠k:=λ e=>by
  rcases hk with hk|hk
  ·exact h0 (e.trans hk)
  ·exact hn (e▸hk)
 rw[rU i fh] at hg
 obtain⟨g1,h1,rfl⟩:=aN.1 hg
 obtain⟨d,h2,h3⟩:=h i g1 h0 hn h1
 rw[zbR h2 hf]
 exact⟨d,h2,h3⟩
theorem ve.more(h:ve P gs t Lv q){d:Nat}(hk:k≠0)(hg:∀g,gs[k]?=ab g->nm P n d g/\Deaf t k=d)(hL:∀i,Lv i->Lv' i\/i=k):ve P gs t Lv' (upd q k n):=λ i g h0 hn VS=>by
 by_cases e:i=k
 ·subst e
  obtain⟨h1,h2⟩:=hg g VS
  exact⟨d,by rw[upd_same];exact h1,h2⟩
 ·rw[upd_ne q n e]
  exact h i g h0 (λ hl=>by
   rcases hL i hl with h|h
   ·exact hn h
   ·exact e h) VS
theorem ve.sub(h:ve P gs t Lv q)(hL:∀i,Lv i->Lv' i):ve P gs t Lv' q:=λ i g h0 hn hg=>h i g h0 (λ hl=>hn (hL i hl)) hg
theorem Fq{d:Nat}(hq:nm P n d g)(hr:g.status=.running):∃m g' es,n=m+1/\(∀e∈es,Fa e=ae)/\(∀w,bU P aa g w=.go g' w es)/\nm P m (cG d es) g':=by
 cases n with
 |zero=>exact absurd (hr.symm.trans hq.1) (by decide)
 |succ m=>
  rcases hq with⟨h,_⟩|⟨_,g',es,h1,h2,h3⟩
  ·exact absurd (hr.symm.trans h) (by decide)
  ·exact⟨m,g',es,rfl,h1,h2,h3⟩
theorem zi{e:bT}(h:Fa e=ae):(aP e).touch?=ak/\∀a,aP e≠.mark (.release a):=by
 obtain⟨loc,wr,sy⟩:=e
 cases loc with
 |mark m=>cases m<;>simp_all [Fa,aP,cB]
 |_=>simp[Fa] at h
end
def DdL(dead:Nat->Prop)(l:Loc):Prop:=∃b,vj l=ab b/\dead b
def noL:Loc->Prop:=λ _=>False
def onL:Nat->Loc->Prop:=λ _ _=>False
def LK(dead:Nat->Prop)(g:Nat)(l:Loc):Prop:=g=0/\¬DdL dead l
theorem zoO(dead:Nat->Prop):zms noL (LK dead) onL:=⟨λ _ _ _ h k=>h.1.trans k.1.symm,λ _ _ _ _ k=>k.elim,λ _ _ _ h=>h,λ _ _ h=>h.elim⟩
def YA(Fin:aj->ai->Prop)(W0:ai)(v':aj)(W':ai):Prop:=
 ∃v w1 R,Fin v w1/\VR R v v'/\HR R w1 W'/\(∀b,b<W0.heap.size->W'.heap[b]?=W0.heap[b]?)/\W0.heap.size<=W'.heap.size/\pS W0.os W'.os/\W'.output=W0.output
structure CB(W0:ai)(dead:Nat->Prop)(gs:Array aI)(w:ai)(t:pk):Prop where
 old:∀b,b<W0.heap.size->w.heap[b]?=W0.heap[b]?
 size:W0.heap.size<=w.heap.size
 bnd:∀i x,touchAt t i=ab x->∀b,vj x.loc=ab b->b<w.heap.size
 dlt:∀b,dead b->b<w.heap.size/\W0.heap.size<=b
 ids:∀(i:Nat) op,t[i]?=ab op->op.g<gs.size
 os:pS W0.os w.os
 output:w.output=W0.output
structure PA(N:aG)(Fin:aj->ai->Prop)(W0:ai)(rk:Rk)(q:Nat->Nat)(dead:Nat->Prop)(gs:Array aI)(w:ai)(t:pk)(fr:aB)(L:List aB)(wg:ai)(bx:aB)(L':List aB)(R:BR):Prop where
 main:gs[0]?=ab (G bx L')
 tree:xh N (lN N) Fin rk fr L wg
 f:yC N R fr bx
 l:LA N R L L'
 h:HR R wg w
 rn:∀a b l,R a b l->¬dead b/\(b<W0.heap.size->Fz wg a)
 deaf:Deaf t 0=0
 lv:ve an gs t (λ _=>False) q
 cb:CB W0 dead gs w t
 ti:TI noL (DdL dead) (λ _=>False) (LK dead) onL t
section
variable{N:aG}{Fin:aj->ai->Prop}{W0:ai}{rk:Rk}{q:Nat->Nat}{dead:Nat->Prop}{gs:Array aI}{w w':ai}{t u:pk}{fr:aB}{L:List aB}{wg:ai}{bx:aB}{L':List aB}{R:BR}{sl:Option (Nat×Nat)}
theorem CB.at(h:CB W0 dead gs w t)(d:Nat):CB W0 dead gs (w.at d) t:=⟨h.old,h.size,h.bnd,h.dlt,h.ids,h.os,h.output⟩
theorem HR.at(h:HR R wg w)(d:Nat):HR R wg (w.at d):=⟨h.inj,h.obj,h.kinds⟩
theorem PA.at(h:PA N Fin W0 rk q dead gs w t fr L wg bx L' R)(d:Nat):PA N Fin W0 rk q dead gs (w.at d) t fr L wg bx L' R:=⟨h.main,h.tree,h.f,h.l,h.h.at d,h.rn,h.deaf,h.lv,h.cb.at d,h.ti⟩
theorem CB.step(h:CB W0 dead gs w t){gs':Array aI}(hz:w.heap.size<=w'.heap.size)(ho:∀b,b<W0.heap.size->w'.heap[b]?=w.heap[b]?)(hg:gs.size<=gs'.size)(hos:pS w.os w'.os)(kW:w'.output=w.output)
  (hu:∀op∈u,op.g<gs'.size/\∀x,op.act.touch?=ab x->∀b,vj x.loc=ab b->b<w'.heap.size):CB W0 dead gs' w' (t++u):=by
 refine⟨λ b hb=>(ho b hb).trans (h.old b hb),bD h.size hz,λ i x hx b hb=>?_,λ b hb=>⟨aY (h.dlt b hb).1 hz,(h.dlt b hb).2⟩,λ i op hi=>?_,h.os.trans hos,kW.trans h.output⟩
 ·obtain⟨op,ho,hxa⟩:=touch_of hx
  rcases dI ho with⟨_,h1⟩|⟨_,h1⟩
  ·exact aY (h.bnd i x (by rw[touchAt_of h1];exact hxa) b hb) hz
  ·exact(hu op h1).2 x hxa b hb
 ·rcases dI hi with⟨_,h1⟩|⟨_,h1⟩
  ·exact aY (h.ids i op h1) hg
  ·exact(hu op h1).1
theorem zrX(i:Nat)(g:aI)(es:Array bT):opsOf i g es []=cW i g.frame.fn g.frame.place es:=CU
theorem OI{R':BR}{wx:ai}{e:bT}(h:Sx R wx R' e):(∀x,(aP e).touch?=ab x->∃b a l,vj x.loc=ab b/\R' a b l)/\(∀a,aP e≠.mark (.release a))/\aP e≠.mark .disable/\aP e≠.mark .enable:=by
 obtain⟨loc,wr,sy⟩:=e
 cases loc with
 |cell a=>
  obtain⟨b,l,h1,_⟩:=h
  refine⟨λ x hx=>?_,λ ad hh=>(by cases hh),by simp[aP],by simp[aP]⟩
  simp only[aP,cB,aF] at hx
  subst hx
  exact⟨a.block,b,l,rfl,h1⟩
 |obj r=>
  obtain⟨b,l,h1,_⟩:=h
  by_cases hc:wr=ae/\sy=ae
  ·obtain⟨rfl,rfl⟩:=hc
   exact⟨λ x hx=>(by cases hx),λ ad hh=>(by cases hh),by simp[aP],by simp[aP]⟩
  ·have e:aP ⟨.obj r,wr,sy⟩=.access ⟨.obj r,wr,sy⟩:=by cases wr<;>cases sy<;>first|rfl|exact absurd ⟨rfl,rfl⟩ hc
   refine⟨λ x hx=>?_,λ ad hh=>(by rw[e] at hh;cases hh),(by rw[e];simp),(by rw[e];simp)⟩
   rw[e] at hx
   simp only[cB,aF] at hx
   subst hx
   exact⟨r,b,l,rfl,h1⟩
 |mark m=>
  cases m<;>first
   |(cases h;done)
   |exact⟨λ x hx=>by simp[aP,cB] at hx,λ ad hh=>by simp[aP] at hh,by simp[aP],by simp[aP]⟩
 |output=>exact h.elim
 |goroutines=>exact h.elim
def left(n:Nat)(q:Nat->Nat):Nat:=4*sumTo n q
theorem WW{n i m:Nat}(hi:i<n)(hm:q i=m+1):left n (upd q i m)+4=left n q:=by
 have:sumTo n (upd q i m)+q i=sumTo n q+m:=sumTo_upd (α:=Nat) q m id hi
 unfold left
 omega
theorem eW{f:aI->aI}{k:Nat}{g:aI}:((gs.map f).setIfInBounds k g).size=gs.size:=by simp
theorem Hl{g:Nat}{fn:FuncId}{pos:String}{es:Array bT}{op:MemOp}(h:op∈cW g fn pos es):∃e∈es,op={ g,fn,pos,act:=.ofEvent e }:=by
 rw[ofEvents_eq] at h
 obtain⟨e,he,rfl⟩:=Array.mem_map.1 h
 exact⟨e,he,rfl⟩
theorem PA.Pw(h:PA N Fin W0 rk q dead gs w t fr L wg bx L' R){i:Nat}{g:aI}(hi:i≠0)(hg:gs[i]?=ab g)(hr:g.status=.running):
  ∃m' ops q',runT an (crowd gs w sl) i=(.next m',ops)/\(∃gs',m'=crowd gs' w sl/\gs'.size=gs.size/\PA N Fin W0 rk q' dead gs' w (t++ops) fr L wg bx L' R)/\left gs.size q'<left gs.size q:=by
 obtain⟨d,h1,h2⟩:=h.lv i g hi id hg
 obtain⟨m,g',es,e1,e2,e3,e4⟩:=Fq h1 hr
 have cj:=(ah.1 hg).1
 have eB:=jN (P:=an) (w:=w) (sl:=sl) (i:=i) (g':=g') (w':=w) (es:=es) hg (by rw[show (i == 0)=aa by simpa using hi];exact e3 w)
 have hwk:Wk w (woken an g g' w):=λ o=>by
  unfold woken
  split
  ·exact .inr rfl
  ·exact .inl rfl
 have wv:∀op∈cW i g.frame.fn g.frame.place es,op.g=i:=Go.ConcR.g_of_ofEvents
 have hm0:(woken an g g' w) (G bx L')=G bx L':=by
  rcases hwk (G bx L') with e|e
  ·exact e
  ·rw[e];exact wM _ (.inl rfl)
 refine⟨_,_,upd q i m,eB,⟨_,rfl,eW,?_,h.tree,h.f,h.l,h.h,h.rn,?_,?_,?_,?_⟩,by have:=WW (q:=q) cj e1;omega⟩
 ·rw[rU 0 (dr hi),h.main]
  exact congrArg ab hm0
 ·rw[nC t hi _ wv];exact h.deaf
 ·have h5:ve an ((gs.map (woken an g g' w)).setIfInBounds i g') t (λ j=>j=i) q:=(h.lv.sub (λ _ x=>x.elim)).move hwk (.inr rfl)
  have h6:ve an ((gs.map (woken an g g' w)).setIfInBounds i g') (t++cW i g.frame.fn g.frame.place es) (λ j=>j=i) q:=h5.app wv (.inr rfl)
  refine h6.more (Lv':=λ _=>False) (n:=m) (d:=cG d es) hi (λ g1 hg1=>?_) (λ j hj=>.inr hj)
  rw[gX cj] at hg1
  cases hg1
  exact⟨e4,by rw[Deaf_own,h2]⟩
 ·refine h.cb.step (aA _) (λ _ _=>rfl) (dh eW.symm) (.refl _) rfl λ op cM=>⟨by rw[wv op cM,eW];exact cj,λ x hx=>?_⟩
  obtain⟨e,he,rfl⟩:=Hl cM
  rw[(zi (e2 e he)).1] at hx
  cases hx
 ·refine h.ti.app0 wv λ op cM=>?_
  obtain⟨e,he,rfl⟩:=Hl cM
  exact zi (e2 e he)
end
end Rn
namespace Rn
open Go Go.Conc Go.ConcM
open Go.ConcN (sumTo upd upd_same upd_ne sumTo_congr sumTo_upd runT_crowd_ended Deaf_still)
open Go.ConcR (KK WgAt stA smA rd wr mk DC0)
theorem ziY{P:aG}{fr:aB}{w w1:ai}{v:aj}{es:Array bT}(hk:fr.kind=.normal)(AI:P.inits.idxOf? fr.fn=ak)(h:eG P fr [] w=.ret v w1 es):bU P ae (G fr []) w=.ended (.done v) w1 es:=by
 unfold eG at h
 cases hm:fr.mode with
 |panicking c=>rw[hm] at h;cases h
 |run=>
  rw[hm] at h
  exfalso
  have hd:=@zaL P ae fr [] w hk
  have Yb:fr.roundOf=ak\/fr.roundOf≠ak:=Classical.em _
  simp only at h
  unfold JB LF lto at h
  revert h
  repeat' split
  all_goals intro h
  all_goals first
   |(cases h;done)
   |skip
  all_goals
   unfold mV at h
   revert h
   repeat' split
   all_goals intro h
   all_goals cases h
 |returning=>
  rw[hm] at h
  simp only at h
  unfold tI at h
  cases hd:fr.defers with
  |cons d ds=>
   rw[hd] at h
   revert h
   repeat' split
   all_goals intro h
   all_goals first
    |(cases h;done)
    |contradiction
  |nil=>
   rw[hd] at h
   simp only at h
   cases hf:P.funcs[fr.fn]? with
   |none=>rw[hf] at h;cases h
   |some fn=>
    rw[hf] at h
    simp only at h
    cases hx:(results fn fr.tmps).runT P w #[] with
    |mk r ik=>
     rw[hx] at h
     cases r with
     |halt x w1=>cases h
     |ok v1 w2=>
      simp only[LR.ret.injEq] at h
      obtain⟨rfl,rfl,rfl⟩:=h
      simp only[Sem.runT_eq,bz] at hx
      simp[bU,G,hm,unwind,hd,hf,hx.1,hx.2,dE,Hc,hk,AI]
section
variable{N:aG}{Fin:aj->ai->Prop}{W0:ai}{rk:Rk}{q:Nat->Nat}{dead:Nat->Prop}{gs:Array aI}{w w':ai}{t u:pk}{fr:aB}{L:List aB}{wg:ai}{bx:aB}{L':List aB}{R:BR}{sl:Option (Nat×Nat)}
theorem PA.free(h:PA N Fin W0 rk q dead gs w t fr L wg bx L' R):∀o∈gs,o.status≠.blocked\/o.offers=ak:=by
 intro o ho
 obtain⟨i,hi⟩:=dX.1 ho
 by_cases e:i=0
 ·subst e
  rw[h.main] at hi
  cases hi
  exact .inl (by simp[G])
 ·obtain⟨d,h1,_⟩:=h.lv i o e id hi
  rcases h1.status with e|e<;>exact .inl (by rw[e];decide)
theorem Zn{R':BR}{wx:ai}{g:aI}{es:Array bT}{acts:List jX}{W':ai}(hR:HR R' wx W')(hd:∀a b l,R' a b l->¬dead b){Rk Wk:BR}{wk:ai}(he:∀e∈es,Sx Rk wk R' e)(ha:∀a∈acts,zf4 Wk a):
  (∀op∈opsOf 0 g es acts,op.g=0)/\(∀op∈opsOf 0 g es acts,OkT noL (LK dead) onL 0 op)/\(∀op∈opsOf 0 g es acts,op.act≠.mark .disable/\op.act≠.mark .enable)/\
   ∀op∈opsOf 0 g es acts,∀x,op.act.touch?=ab x->∀b,vj x.loc=ab b->b<W'.heap.size:=by
 refine⟨λ op cM=>(im cM).1,λ op cM=>⟨(im cM).1,?_,?_⟩,λ op cM=>?_,λ op cM x hx b hb=>?_⟩
 ·rcases (im cM).2 with⟨e,h1,h2⟩|⟨a,h1,h2⟩
  ·rw[h2];exact(OI (he e h1)).2.1
  ·rw[h2];exact λ ad=>(xm (ha a h1)).2 _
 ·intro x hx
  rcases (im cM).2 with⟨e,h1,h2⟩|⟨a,h1,h2⟩
  ·rw[h2] at hx
   obtain⟨b,a,l,h3,h4⟩:=(OI (he e h1)).1 x hx
   refine .inr (.inl ⟨rfl,λ⟨b',h5,h6⟩=>?_⟩)
   rw[h3] at h5
   cases h5
   exact hd _ _ _ h4 h6
  ·rw[h2,(xm (ha a h1)).1] at hx;cases hx
 ·rcases (im cM).2 with⟨e,h1,h2⟩|⟨a,h1,h2⟩
  ·rw[h2];exact(OI (he e h1)).2.2
  ·rw[h2];exact⟨(xm (ha a h1)).2 _,(xm (ha a h1)).2 _⟩
 ·rcases (im cM).2 with⟨e,h1,h2⟩|⟨a,h1,h2⟩
  ·rw[h2] at hx
   obtain⟨b',a,l,h3,h4⟩:=(OI (he e h1)).1 x hx
   rw[h3] at hb
   cases hb
   exact(hR.lt h4).2
  ·rw[h2,(xm (ha a h1)).1] at hx;cases hx
theorem PA.next(g:PG N an)(gp:GP N)(h:PA N Fin W0 rk q dead gs w t fr L wg bx L' R){rk1:Rk}{fr1:aB}{L1:List aB}{w1:ai}{es:Array bT}{acts:List jX}(hs:eG N fr L (World.on wg w.tape w.drawn)=.next fr1 L1 w1 es acts)
  (ht:xh N (lN N) Fin rk1 fr1 L1 w1):
  ∃m' ops,runT an (crowd gs w sl) 0=(.next m',ops)/\∃gs' W' AO Yc R',m'=crowd gs' W' sl/\gs'.size=gs.size/\PA N Fin W0 rk1 q dead gs' W' (t++ops) fr1 L1 w1 AO Yc R':=by
 have s1:=sim g gp h.f h.l (h.h.on w.tape w.drawn) (US wg w)
 rw[hs] at s1
 obtain⟨AO,Yc,W',es',xi,R',e1,k1,k2,k3,k4,k5,k6⟩:=s1
 have hd:=zaL (P:=an) (main:=ae) (fr:=bx) (L:=L') (w:=w) h.f.zP h.f.tO
 rw[e1] at hd
 have mv:=Qr (cs:=[]) hd
 simp only[eO] at mv
 obtain⟨f,hf,_,eB⟩:=OU (sl:=sl) (i:=0) h.main h.free mv
 have hsz:w.heap.size<=W'.heap.size:=by have:=k4.DS;omega
 have h0:0<gs.size:=(ah.1 h.main).1
 have hrn:∀a b l,R' a b l->¬dead b/\(b<W0.heap.size->Fz w1 a):=λ a b l r=>by
  rcases k4.new a b l r with r|⟨k,q1,q2,q3⟩
  ·exact⟨(h.rn a b l r).1,λ hb=>OM k4 r ((h.rn a b l r).2 hb)⟩
  ·refine⟨λ hd=>by have:=(h.cb.dlt b hd).1;omega,λ hb=>by have:=h.cb.size;omega⟩
 obtain⟨o1,o2,o3,o4⟩:=Zn (g:=G bx L') k3 (λ a b l r=>(hrn a b l r).1) k5 k6
 refine⟨_,_,eB,_,W',AO,Yc,R',rfl,eW,gX h0,ht,k1,k2,k3,hrn,?_,(h.lv.move hf (.inl rfl)).app o1 (.inl rfl),?_,h.ti.app (zoO dead) (.inl rfl) o2⟩
 ·rw[Deaf_still _ _ _ o3];exact h.deaf
 ·refine h.cb.step hsz (λ b hb=>?_) (dh eW.symm) (by rw[k4.os];exact .refl _) k4.output λ op cM=>⟨by rw[o1 op cM,eW];exact h0,o4 op cM⟩
  by_cases hr:∃a l,R a b l
  ·obtain⟨a,l,r⟩:=hr
   exact(k4.fz _ _ _ r ((h.rn a b l r).2 hb)).2
  ·exact k4.rest b (aY hb h.cb.size) λ a l r=>hr ⟨a,l,r⟩
theorem PA.fin(g:PG N an)(gp:GP N)(AI:∀f fn,N.funcs[f]?=ab fn->fn.body.isSome=ae->an.inits.idxOf? f=ak)(h:PA N Fin W0 rk q dead gs w t fr L wg bx L' R){v:aj}{w1:ai}{es:Array bT}(hs:eG N fr L (World.on wg w.tape w.drawn)=.ret v w1 es)(hf:Fin v w1)(m:Machine)(hm:m.gs=gs/\m.rest.timers=#[]):
  ∃o W' ops,runT an (crowd gs w sl) 0=(.ended o W',ops)/\Conc.Good an (YA Fin W0) m o W' (t++ops):=by
 have s1:=sim g gp h.f h.l (h.h.on w.tape w.drawn) (US wg w)
 rw[hs] at s1
 obtain⟨v',W',es',R',e1,k1,k3,k4,k5⟩:=s1
 have hd:=zaL (P:=an) (main:=ae) (fr:=bx) (L:=L') (w:=w) h.f.zP h.f.tO
 rw[e1] at hd
 obtain⟨hL,_⟩:=hd
 subst hL
 obtain⟨fn,zzd,zze⟩:=h.f.has
 have dz:=ziY h.f.zP (h.f.fn▸AI _ fn zzd zze) e1
 have eB:=runT_crowd_ended (sl:=sl) (i:=0) h.main dz
 have hsz:w.heap.size<=W'.heap.size:=by have:=k4.DS;omega
 have hrn:∀a b l,R' a b l->¬dead b:=λ a b l r=>by
  rcases k4.new a b l r with r|⟨k,q1,q2,q3⟩
  ·exact(h.rn a b l r).1
  ·exact λ hd=>by have:=(h.cb.dlt b hd).1;omega
 obtain⟨o1,o2,o3,o4⟩:=Zn (g:=G bx []) (acts:=[]) k3 hrn k5 (Wk:=R) (by simp)
 rw[zrX] at o1 o2 o3 o4
 have DD:=h.ti.app (zoO dead) (.inl rfl) o2
 have hold:∀b,b<W0.heap.size->W'.heap[b]?=W0.heap[b]?:=λ b hb=>by
  refine Eq.trans ?_ (h.cb.old b hb)
  by_cases hr:∃a l,R a b l
  ·obtain⟨a,l,r⟩:=hr
   exact(k4.fz _ _ _ r ((h.rn a b l r).2 hb)).2
  ·exact k4.rest b (aY hb h.cb.size) λ a l r=>hr ⟨a,l,r⟩
 refine⟨_,W',_,eB,v',rfl,⟨v,w1,R',hf,k1,k3,hold,bD h.cb.size hsz,h.cb.os.trans (by rw[k4.os];exact .refl _),k4.output.trans h.cb.output⟩,DD.nr,DD.handed,⟨λ o ho=>?_,by rw[hm.2];rfl⟩,λ i o hi h0=>?_⟩
 ·rw[hm.1] at ho
  obtain⟨k,hk⟩:=List.mem_iff_getElem?.1 ho
  rw[List.getElem?_drop] at hk
  obtain⟨d,h1,_⟩:=h.lv (1+k) o (by omega) id (by simpa using hk)
  exact⟨_,h1.leaves⟩
 ·rw[hm.1] at hi
  obtain⟨d,h1,h2⟩:=h.lv i o h0 id hi
  refine⟨q i,?_⟩
  have e3:(t++cW 0 (G bx []).frame.fn (G bx []).frame.place es').deaf i (t++cW 0 (G bx []).frame.fn (G bx []).frame.place es').size=d:=by
   have:=nC t (dr h0) _ o1
   exact this.trans h2
  rw[e3]
  exact h1.hears _
end
end Rn
namespace Rn
open Go Go.Conc Go.ConcM
open Go.ConcN (sumTo upd upd_same upd_ne sumTo_congr sumTo_upd CTag WD Mode)
open Go.ConcR (KK WgAt stA smA rd wr mk DC0)
inductive lj where
 |no
 |live (x:Nw) (r:Rk) (bl:Bool)
 |gone (WS RS:Nat->Prop)
namespace lj
def ws:lj->Nat->Prop
 |.no=>Yj
 |.live x _ _=>x.WS
 |.gone a _=>a
def rs:lj->Nat->Prop
 |.no=>Yj
 |.live x _ _=>x.RS
 |.gone _ a=>a
def isLive:lj->Prop
 |.live ..=>True
 |_=>False
def jV(fX:Bool):lj->Th
 |.no=>at_ .ld
 |.live x _ _=>if wy x.T.pc then x.T else at_ (if fX then .kd else .wr)
 |.gone ..=>at_ (if fX then .kd else .wr)
def stage:lj->Nat
 |.no=>0
 |.live x _ _=>(match x.T.pc with
  |.wk=>6
  |.d1=>5
  |.d2=>4
  |.d3=>3
  |.d4=>2
  |_=>7)
 |.gone ..=>1
def bit:lj->Nat
 |.live _ _ bl=>if bl then 0 else 1
 |_=>0
def DN:lj->Bool
 |.no=>aa
 |.live x _ _=>x.T.mute
 |.gone ..=>ae
end lj
def DZ(Z:Nat->lj):Nat->WD:=λ s=>⟨(Z s).stage,0,0⟩
def blk(bl:Bool)(g:aI):aI:=if bl then { g with status:=.blocked } else g
def nk(bm:Bool):MT->CTag
 |.st=>.kd
 |.ad _=>.kd
 |.go _=>.sp 0 3
 |.w1=>.w1
 |.w2 v=>.w2 v
 |.w3=>if bm then .blk else .w3
 |.w4=>.w4
 |.aq=>.acq
 |.fin _ _=>.ret
def jOk:MT->Nat->Prop
 |.st,j=>j=0
 |.ad i,j=>j=i/\i<2
 |.go i,j=>j=i/\i<2
 |.fin _ _,_=>False
 |_,j=>j=2
def kOk(V:Nat):MT->Nat->Prop
 |.st,k=>3<=k
 |.ad _,k=>3<=k
 |.go _,k=>3<=k
 |.w1,k=>V+1<=k
 |.w2 v,k=>v+1<=k
 |_,k=>1<=k
def GS.ok3(g:GS):Bool:=!(g.a.pc == .kd && g.b.pc == .s1 && g.s.ms == 0) && !(g.b.pc == .wr && g.a.pc == .s1 && g.s.ms == 0)
def zr3:List Nat->Bool
 |c::_=>GS.ok3 (GS.dec c)
 |_=>aa
theorem zmO:Raw.all zr3=ae:=by kernel_rfl
theorem zm4{G:GS}{r:Nat}(h:InT G r):GS.ok3 G=ae:=by
 obtain⟨c,js,hm,rfl⟩:=h
 exact List.all_eq_true.1 zmO _ hm
variable{fX:Bool}{s:Sh}
theorem mv_nil{T:Th}(hp:wy T.pc=ae)(h:mv fX T s=[]):T.pc=.s1:=by
 obtain⟨pc,old,nw,aw,sv,it,ws⟩:=T
 cases pc<;>first
  |(cases hp;done)
  |rfl
  |(simp only[mv] at h;(repeat' split at h)<;>simp at h)
theorem zvS{T: Th}{r: Th × Sh}(hp : wy T.pc = ae)(h : r ∈ mv fX T s) : r.2.wg = s.wg ∧ r.2.ws = s.ws := by
  obtain ⟨pc, old, nw, aw, sv, it, ws⟩ := T
  cases pc <;> first
    | (cases hp; done)
    | (simp only [mv] at h
       repeat' split at h
       all_goals
         simp only [List.mem_cons, List.not_mem_nil, or_false, List.mem_append] at h
       all_goals first
         | (subst h; exact ⟨rfl, rfl⟩)
         | (rcases h with h | h <;> (subst h; exact ⟨rfl, rfl⟩)))
theorem zvR{T:Th}{r:Th×Sh}(hp:wy T.pc=ae)(h:r∈mv fX T s)(hb:r.1.pc≠.bad):(wy r.1.pc=ae/\LB r.1=r.1)\/(r.1=at_ (if fX then .kd else .wr)/\LB r.1=at_ .wr):=by
 have h1:=WY h hb
 have Pl:zej T.pc=ae\/zgd T.pc=ae:=by cases hpc:T.pc<;>rw[hpc] at hp<;>first|(cases hp;done)|exact .inl rfl|exact .inr rfl
 rcases Pl with hl|hu
 ·rcases h1.1 hl with h2|h2
  ·exact .inl ⟨(zc0 h2).1,E5 (zc0 h2).2.1⟩
  ·exact .inl ⟨by rw[h2];rfl,by rw[h2];rfl⟩
 ·rcases h1.2 hu with h2|h2
  ·exact .inl ⟨(zhy h2).1,E5 (zhy h2).2.1⟩
  ·exact .inr ⟨h2,by rw[h2];cases fX<;>rfl⟩
section
variable{P:aG}{g o:aI}{w':ai}{f:aI->aI}{bl:Bool}
theorem P7(h:g.offers=ak):(blk bl g).offers=ak:=by cases bl<;>exact h
theorem zbr(h:g.status=.running):(blk bl g).status=if bl then .blocked else .running:=by cases bl<;>first|exact h|rfl
theorem UX(h:bl=ae->g.offers=ak)(hr:g.status=.running):(blk bl g).again w'=g:=by
 cases bl with
 |false=>exact wM _ (.inl hr)
 |true=>
  have e:(blk ae g).offers=ak:=h rfl
  rw[zbq e (.inr (.inr rfl))]
  obtain⟨a,b,c,d⟩:=g
  simp only at hr
  subst hr
  rfl
theorem zst(hf:Wk w' f)(h:bl=ae->g.offers=ak)(hr:g.status=.running):∃bl',f (blk bl g)=blk bl' g/\(bl'=ae->bl=ae):=by
 rcases hf (blk bl g) with e|e
 ·exact⟨bl,e,id⟩
 ·exact⟨aa,by rw[e,UX h hr];rfl,λ h=>by cases h⟩
theorem xw(P:aG)(g g':aI)(w':ai):Wk w' (woken P g g' w'):=λ o=>by
 unfold woken
 split
 ·exact .inr rfl
 ·exact .inl rfl
theorem zfm{g1 g1':aI}(hm:mayWake P g1=ae)(hg:g1'.status=.running)(h:bl=ae->g.offers=ak)(hr:g.status=.running):woken P g1 g1' w' (blk bl g)=blk aa g:=by
 unfold woken
 rw[hm,hg]
 exact UX h hr
end
open Go Go.Conc Go.ConcM
open Go.ConcN (sumTo upd upd_same upd_ne sumTo_congr sumTo_upd CTag WD Mode Deaf_still)
open Go.ConcR (KK WgAt stA smA rd wr mk DC0)
def Rk.up:Rk->Rk
 |.nd ι f=>.nd (Option ι) (λ o=>match o with
  |none=>Rk.bot
  |some i=>(f i).up)
theorem Rk.zv7{a b:Rk}(h:Rk.lt a b):Rk.lt a.up b.up:=by
 cases b with
 |nd ι f=>
  obtain⟨i,rfl⟩:=h
  rw[Rk.up]
  exact⟨ab i,rfl⟩
theorem Rk.zrw(b:Rk):Rk.lt Rk.bot b.up:=by
 cases b with
 |nd ι f=>rw[Rk.up];exact⟨ak,rfl⟩
def lj.mr:lj->Rk
 |.live _ r _=>r.up
 |_=>Rk.bot
def zga(bm:Bool):Nat:=if bm then 0 else 1
section
variable(ph:Ph)
def ShL(l:Loc):Prop:=∃b,vj l=ab b/\(b=ph.Mu\/b=ph.Wg)
def AS(dead:Nat->Prop)(b:Nat):Prop:=dead b\/b=ph.Mu\/b=ph.Wg
def wkR(j:Nat)(gr:Nat->Nat)(k:Nat):Prop:=∃s,s<j/\k=gr s
def zra(lo:Nat)(hi:Nat)(l:Loc):Prop:=∃a,l=.cell a/\a.block=ph.Bo/\lo<=a.off/\a.off<hi
def WR(j:Nat)(gr:Nat->Nat)(x:Nm)(Z:Nat->lj)(g:Nat)(l:Loc):Prop:=
 (g=0/\((∃b,vj l=ab b/\x.WS b)\/∃a,l=.cell a/\a.block=ph.Bo/\j*ph.d<=a.off))\/
 ∃s,s<j/\g=gr s/\((∃b,vj l=ab b/\(Z s).ws b)\/zra ph (s*ph.d) (s*ph.d+ph.d) l)
def RR(j:Nat)(gr:Nat->Nat)(x:Nm)(Z:Nat->lj)(g:Nat)(l:Loc):Prop:=
 (g=0/\∃b,vj l=ab b/\x.RS b)\/∃s,s<j/\g=gr s/\∃b,vj l=ab b/\(Z s).rs b
structure Mem(W0:ai)(n1:Nat)(x:Nm)(Z:Nat->lj)(w:ai):Prop where
 u9:ph.Ok
 shl:∀b,ph.sh b->n1<=b
 le:n1<=w.heap.size
 wn:W0.heap.size<=n1
 wm:∀b,x.WS b->n1<=b/\b<w.heap.size/\¬ph.sh b
 rm:∀b,x.RS b->b<n1
 wf:∀s b,(Z s).ws b->n1<=b/\b<w.heap.size/\¬ph.sh b
 rf:∀s b,(Z s).rs b->b<w.heap.size/\¬ph.sh b/\¬x.WS b/\∀s',¬(Z s').ws b
 mf:∀s b,x.WS b->¬(Z s).ws b
 ff:∀s s' b,(Z s).ws b->(Z s').ws b->s=s'
end
section
variable{ph:Ph}{W0:ai}{n1:Nat}{x:Nm}{Z:Nat->lj}{w:ai}{j:Nat}{gr:Nat->Nat}
theorem Mem.excl(m:Mem ph W0 n1 x Z w):zms (ShL ph) (WR ph j gr x Z) (RR j gr x Z):=by
 have zd8:∀{l:Loc} {a:cr} {b:Nat},l=.cell a->a.block=ph.Bo->vj l=ab b->ph.sh b:=by
  rintro l a b rfl h1 h2
  cases h2
  exact .inr (.inr h1)
 refine⟨?_,?_,?_,?_⟩
 ·rintro g g' l (⟨rfl,h⟩|⟨s,hs,rfl,h⟩) (⟨rfl,k⟩|⟨s',hs',rfl,k⟩)
  ·rfl
  ·exfalso
   rcases h with⟨b,h1,h2⟩|⟨a,h1,h2,h3⟩<;>rcases k with⟨b',k1,k2⟩|⟨a',k1,k2,k3,k4⟩
   ·rw[h1] at k1;cases k1;exact m.mf s' b h2 k2
   ·exact(m.wm b h2).2.2 (zd8 k1 k2 h1)
   ·exact(m.wf s' b' k2).2.2 (zd8 h1 h2 k1)
   ·rw[h1] at k1
    cases k1
    have:=br ph.d (show s'+1<=j by omega)
    rw[gj,pA] at this
    omega
  ·exfalso
   rcases k with⟨b,h1,h2⟩|⟨a,h1,h2,h3⟩<;>rcases h with⟨b',k1,k2⟩|⟨a',k1,k2,k3,k4⟩
   ·rw[h1] at k1;cases k1;exact m.mf s b h2 k2
   ·exact(m.wm b h2).2.2 (zd8 k1 k2 h1)
   ·exact(m.wf s b' k2).2.2 (zd8 h1 h2 k1)
   ·rw[h1] at k1
    cases k1
    have:=br ph.d (show s+1<=j by omega)
    rw[gj,pA] at this
    omega
  ·have e:s=s':=by
    rcases h with⟨b,h1,h2⟩|⟨a,h1,h2,h3,h4⟩<;>rcases k with⟨b',k1,k2⟩|⟨a',k1,k2,k3,k4⟩
    ·rw[h1] at k1;cases k1;exact m.ff _ _ _ h2 k2
    ·exact absurd (zd8 k1 k2 h1) (m.wf s b h2).2.2
    ·exact absurd (zd8 h1 h2 k1) (m.wf s' b' k2).2.2
    ·rw[h1] at k1
     cases k1
     rcases Nat.lt_trichotomy s s' with hl|hl|hl
     ·have:=br ph.d (show s+1<=s' by omega)
      rw[gj,pA] at this
      omega
     ·exact hl
     ·have:=br ph.d (show s'+1<=s by omega)
      rw[gj,pA] at this
      omega
   rw[e]
 ·intro g g' l h k
  exfalso
  have hb:∃b,vj l=ab b/\n1<=b/\(x.WS b\/(∃s,(Z s).ws b)\/ph.sh b):=by
   rcases h with⟨_,⟨b,h1,h2⟩|⟨a,h1,h2,_⟩⟩|⟨s,_,_,⟨b,h1,h2⟩|⟨a,h1,h2,_⟩⟩
   ·exact⟨b,h1,(m.wm b h2).1,.inl h2⟩
   ·exact⟨a.block,by rw[h1];rfl,m.shl _ (.inr (.inr h2)),.inr (.inr (.inr (.inr h2)))⟩
   ·exact⟨b,h1,(m.wf s b h2).1,.inr (.inl ⟨s,h2⟩)⟩
   ·exact⟨a.block,by rw[h1];rfl,m.shl _ (.inr (.inr h2)),.inr (.inr (.inr (.inr h2)))⟩
  obtain⟨b,h1,h2,h3⟩:=hb
  rcases k with⟨_,b',k1,k2⟩|⟨s,_,_,b',k1,k2⟩
  ·rw[h1] at k1;cases k1
   have:=m.rm b k2
   omega
  ·rw[h1] at k1;cases k1
   obtain⟨_,q1,q2,q3⟩:=m.rf s b k2
   rcases h3 with h3|⟨s',h3⟩|h3
   ·exact q2 h3
   ·exact q3 s' h3
   ·exact q1 h3
 ·rintro g l h ⟨b,h1,h2⟩
  have hs:ph.sh b:=h2.elim .inl λ z=>.inr (.inl z)
  have nb:b≠ph.Bo:=by
   rintro rfl
   rcases h2 with h2|h2
   ·exact m.u9.mb h2.symm
   ·exact m.u9.wb h2.symm
  rcases h with⟨_,⟨b',k1,k2⟩|⟨a,k1,k2,_⟩⟩|⟨s,_,_,⟨b',k1,k2⟩|⟨a,k1,k2,_⟩⟩
  ·rw[h1] at k1;cases k1;exact(m.wm b k2).2.2 hs
  ·rw[k1] at h1;cases h1;exact nb k2
  ·rw[h1] at k1;cases k1;exact(m.wf s b k2).2.2 hs
  ·rw[k1] at h1;cases h1;exact nb k2
 ·rintro g l h ⟨b,h1,h2⟩
  have hs:ph.sh b:=h2.elim .inl λ z=>.inr (.inl z)
  rcases h with⟨_,b',k1,k2⟩|⟨s,_,_,b',k1,k2⟩
  ·rw[h1] at k1;cases k1
   have:=m.rm b k2
   have:=m.shl b hs
   omega
  ·rw[h1] at k1;cases k1;exact(m.rf s b k2).2.1 hs
theorem zoU{cs:Array aj}(h:cs.size=2*ph.d):half ph 2 cs=#[]:=by
 unfold half
 apply fj
 simp only[cD,bI]
 rw[eZ (by simp;omega)]
 simp
end
structure EfR(ph:Ph)(X:Nat->Prop)(s:Nat)(w w':ai):Prop where
 size:w.heap.size<=w'.heap.size
 blk:∀b,b<w.heap.size->¬X b->¬ph.sh b->w'.heap[b]?=w.heap[b]?
 bo:∀cs,Am ph w cs->∃kT,Am ph w' kT/\∀s',s'<=2->s'≠s->half ph s' kT=half ph s' cs
 mu:VX ph w->VX ph w'
 wg:V0 ph w->V0 ph w'
 os:pS w.os w'.os
 output:w'.output=w.output
section
variable{ph:Ph}{X:Nat->Prop}{s s':Nat}{w w':ai}{St:Nat->Prop}{P:aG}{main:Bool}{WS RS ot:Nat->Prop}{g g':aI}{es:Array bT}{acts:List jX}
theorem EfR.rly(e:EfR ph X s w w')(hs:s'<=2)(fh:s'≠s)(hS:∀b,St b->b<w.heap.size/\¬X b/\¬ph.sh b):gY ph s' St w w':=
 ⟨e.size,λ b hb=>e.blk b (hS b hb).1 (hS b hb).2.1 (hS b hb).2.2,e.mu,e.wg,λ cs hc=>let ⟨c,h1,h2⟩:=e.bo cs hc;⟨c,h1,h2 s' hs fh⟩⟩
theorem OH(h:Sil P ph s main WS RS g w ot g' w' es acts)(cj:s<=2)(ok:ph.Ok)(O3:∀b,ph.sh b->¬WS b):EfR ph WS s w w':=by
 have keep:∀b,ph.sh b->b≠ph.Bo->∀o,w.heap[b]?=ab o->w'.heap[b]?=ab o:=λ b hb fh o ho=>(h.blk b (ah.1 ho).1 (O3 b hb) fh).trans ho
 refine⟨h.size,λ b hb hn DC=>h.blk b hb hn λ e=>DC (.inr (.inr e)),λ cs hc=>?_,λ⟨a,b,x⟩=>⟨a,b,keep _ (.inl rfl) ok.mb _ x⟩,λ⟨a,b,x⟩=>⟨a,b,keep _ (.inr (.inl rfl)) ok.wb _ x⟩,h.os,h.output⟩
 obtain⟨kT,h1,h2⟩:=h.bo cs hc
 refine⟨kT,h1,λ s' hs fh=>?_⟩
 rcases l5 s' 2 with hl|hg
 ·exact h2 s' hl fh
 ·obtain rfl:s'=2:=by omega
  rw[zoU h1.2,zoU hc.2]
theorem s8{ex:Nat->Prop}(hb:∀b,¬ex b->w'.heap[b]?=w.heap[b]?)(hz:w'.heap.size=w.heap.size)(hos:pS w.os w'.os)(kW:w'.output=w.output)(hex:∀b,ex b->ph.sh b)(hbo:¬ex ph.Bo)(hm:VX ph w->VX ph w')(hw:V0 ph w->V0 ph w'):EfR ph X s w w':=
 ⟨dh hz.symm,λ b _ _ hs=>hb b λ e=>hs (hex b e),λ cs hc=>⟨cs,⟨(hb _ hbo).trans hc.1,hc.2⟩,λ _ _ _=>rfl⟩,hm,hw,hos,kW⟩
end
end Rn
namespace Rn
open Go Go.Conc Go.ConcM
open Go.ConcN (sumTo upd upd_same upd_ne sumTo_congr sumTo_upd CTag WD Deaf_still Vc)
open Go.ConcR (KK WgAt stA smA rd wr mk DC0)
def s0(Z:Nat->lj)(s:Nat)(z:lj):Nat->lj:=λ i=>if i=s then z else Z i
theorem mC(Z:Nat->lj)(s:Nat)(z:lj):s0 Z s z s=z:=by simp[s0]
theorem rB(Z:Nat->lj){s i:Nat}(z:lj)(h:i≠s):s0 Z s z i=Z i:=by simp[s0,h]
def nn(z:lj)(b:Bool):lj:=match z with
 |.live y r _=>.live y r b
 |z=>z
section
variable(z:lj)(b:Bool)
theorem qO:(nn z b).ws=z.ws:=by cases z<;>rfl
theorem qN:(nn z b).rs=z.rs:=by cases z<;>rfl
theorem zz:(nn z b).stage=z.stage:=by cases z<;>rfl
theorem ui(fX:Bool):(nn z b).jV fX=z.jV fX:=by cases z<;>rfl
theorem zy:(nn z b).DN=z.DN:=by cases z<;>rfl
theorem J4:(nn z b).mr=z.mr:=by cases z<;>rfl
theorem vM:(nn z b).isLive↔z.isLive:=by cases z<;>exact Cu
theorem J5:nn z b=.no↔z=.no:=by cases z<;>simp[nn]
theorem nQ{z:lj}{b bl:Bool}{y:Nw}{r:Rk}(h:nn z b=.live y r bl):bl=b/\∃bl',z=.live y r bl':=by
 cases z with
 |live y1 r1 b1=>
  simp only[nn,lj.live.injEq] at h
  obtain⟨rfl,rfl,rfl⟩:=h
  exact⟨rfl,_,rfl⟩
 |_=>cases h
end
structure zaH(ph:Ph)(j:Nat)(T:MT)(Z:Nat->lj)(w:ai)(mu ms st sm:Int)(ρ:Nat):Prop where
 mA:MuAt ph.tM ph.Mu w mu ms
 gA:WgAt ph.tW ph.Wg w st sm
 md:Go.ConcN.Mode j (DZ Z) (nk aa T) st sm
 tb:InT ⟨(Z 0).jV ae,(Z 1).jV aa,⟨mu,ms,KKi,0⟩⟩ ρ
 kk:∀s y r bl,s<j->Z s=.live y r bl->wy y.T.pc=ae->ρ<y.k
structure zqJ(j:Nat)(bm:Bool)(Z:Nat->lj)(mu ms sm:Int):Prop where
 hm:bm=ae->sm=0
 hl:∀s y r,s<j->Z s=.live y r ae->wy y.T.pc=ae/\mv (s == 0) y.T ⟨mu,ms,KKi,0⟩=[]
section
variable(ph:Ph)(F:Nat->(Nat->Prop)->(Nat->Prop)->ai->Prop)(cF:aB)(csF:List aB)(W0:ai)(dead:Nat->Prop)(n1:Nat)(R0:BR)(wg:ai)(gr:Nat->Nat)
structure RI(x:Nm)(rc:Rk)(bm:Bool)(j:Nat)(Z:Nat->lj)(q:Nat->Nat)(gs:Array aI)(w:ai)(t:pk):Prop where
 main:gs[0]?=ab (blk bm x.g)
 bmo:bm=ae->x.T=.w3/\x.g.offers=ak
 beh:BhM an ph F cF csF rc { x with w:=w }
 deaf:Deaf t 0=x.d
 kz:kOk (Vc j (DZ Z)) x.T x.k
 jT:jOk x.T j
 lv:ve an gs t (λ i=>∃s,s<j/\i=gr s/\(Z s).isLive) q
 no:∀s,j<=s->Z s=.no
 yes:∀s,s<j->Z s≠.no
 kd0:∀s,s<j->gr s≠0/\gr s<gs.size
 SL:∀s s',s<j->s'<j->gr s=gr s'->s=s'
 wk:∀s y r bl,s<j->Z s=.live y r bl->gs[gr s]?=ab (blk bl y.g)/\(bl=ae->y.g.offers=ak)/\Bh an ph s (s == 0) (F s) r { y with w:=w }/\Deaf t (gr s)=y.T.deaf/\y.k≠0/\(wy y.T.pc=ae\/y.T=at_ y.T.pc)
 rel:∀s,s<j->(Z s).DN=ae->(∃r,xd (DdL (AS ph dead)) (stA ph.Wg) t (gr s) r)/\F s (Z s).ws (Z s).rs w
 mem:Mem ph W0 n1 x Z w
 xs:∀b,x.XS b->x.T=.st/\ph.sh b
 gh:HR R0 wg w
 gl:∀a b l,R0 a b l->b<n1
 ti:TI (ShL ph) (DdL (AS ph dead)) (wkR j gr) (WR ph j gr x Z) (RR j gr x Z) t
 cb:CB W0 dead gs w t
 sz:x.T≠.st->∀b,ph.sh b->b<w.heap.size
 sy:x.T≠.st->∃mu ms st sm ρ,zaH ph j x.T Z w mu ms st sm ρ/\zqJ j bm Z mu ms sm
end
theorem Ww{V k:Nat}{T:MT}(h:kOk V T k):k≠0:=by
 cases T<;>simp only[kOk] at h<;>omega
theorem ziN{V V' k:Nat}{T:MT}(hv:V'<=V)(h:kOk V T k):kOk V' T k:=by
 cases T<;>simp only[kOk] at h ⊢<;>omega
theorem E4{T:MT}{j:Nat}(h:jOk T j):j<=2:=by
 cases T<;>simp only[jOk] at h<;>omega
def As(r1 rc:Rk)(Z:Nat->lj)(n:Nat):Ms:=⟨r1,rc,(Z 0).mr,(Z 1).mr,n⟩
def Jw(gs:Array aI)(q:Nat->Nat)(bm:Bool)(Z:Nat->lj):Nat:=left gs.size q+zga bm+(Z 0).bit+(Z 1).bit
section
variable{ph:Ph}{F:Nat->(Nat->Prop)->(Nat->Prop)->ai->Prop}{cF:aB}{csF:List aB}{W0:ai}{dead:Nat->Prop}{n1:Nat}{R0:BR}{wg:ai}{gr:Nat->Nat}
variable{x:Nm}{rc:Rk}{bm:Bool}{j:Nat}{Z:Nat->lj}{q:Nat->Nat}{gs:Array aI}{w w':ai}{t:pk}{sl:Option (Nat×Nat)}
variable{s:Nat}
theorem Mem.grow(m:Mem ph W0 n1 x Z w){Z':Nat->lj}(hs:w.heap.size<=w'.heap.size)(hrs:∀i,(Z' i).rs=(Z i).rs)(ho:∀i,i≠s->(Z' i).ws=(Z i).ws)
  (hw:∀b,(Z' s).ws b↔(Z s).ws b\/(w.heap.size<=b/\b<w'.heap.size/\¬ph.sh b)):Mem ph W0 n1 x Z' w':=by
 have wsI:∀i b,(Z' i).ws b->(Z i).ws b\/(i=s/\w.heap.size<=b/\b<w'.heap.size/\¬ph.sh b):=λ i b hb=>by
  by_cases e:i=s
  ·subst e;exact((hw b).1 hb).imp id λ z=>⟨rfl,z⟩
  ·rw[ho i e] at hb;exact .inl hb
 refine⟨m.u9,m.shl,bD m.le hs,m.wn,λ b hb=>?_,m.rm,λ i b hb=>?_,λ i b hb=>?_,λ i b hb k=>?_,λ i i' b hb Uy=>?_⟩
 ·obtain⟨h1,h2,h3⟩:=m.wm b hb
  exact⟨h1,by omega,h3⟩
 ·rcases wsI i b hb with h|⟨_,h1,h2,h3⟩
  ·obtain⟨h1,h2,h3⟩:=m.wf i b h
   exact⟨h1,by omega,h3⟩
  ·have:=m.le
   exact⟨by omega,h2,h3⟩
 ·rw[hrs] at hb
  obtain⟨h1,h2,h3,h4⟩:=m.rf i b hb
  refine⟨by omega,h2,h3,λ i' k=>?_⟩
  rcases wsI i' b k with h|⟨_,h5,_⟩
  ·exact h4 i' h
  ·omega
 ·rcases wsI i b k with h|⟨_,h5,_⟩
  ·exact m.mf i b hb h
  ·have:=(m.wm b hb).2.1;omega
 ·rcases wsI i b hb with h|⟨rfl,h5,_⟩<;>rcases wsI i' b Uy with h'|⟨rfl,h5',_⟩
  ·exact m.ff i i' b h h'
  ·have:=(m.wf i b h).2.1;omega
  ·have:=(m.wf i' b h').2.1;omega
  ·rfl
theorem zsu{k:Nat}{WS RS:Nat->Prop}{g:aI}{es:Array bT}{acts:List jX}{Wx Rx:Nat->Loc->Prop}(sC:∀e∈es,tE ph s aa WS RS e)(SB:∀a∈acts,LG a)
  (h1:∀l b,vj l=ab b->WS b->Wx k l) (h2:∀l b,vj l=ab b->RS b->Rx k l) (h3:∀l,zra ph (s*ph.d) (s*ph.d+ph.d) l->Wx k l) (hz:∀b,WS b\/RS b\/ph.sh b->b<w'.heap.size):
  (∀op∈opsOf k g es acts,op.g=k)/\(∀op∈opsOf k g es acts,OkT (ShL ph) Wx Rx k op)/\∀op∈opsOf k g es acts,∀y,op.act.touch?=ab y->∀b,vj y.loc=ab b->b<w'.heap.size:=by
 refine⟨λ op cM=>(im cM).1,λ op cM=>⟨(im cM).1,?_,?_⟩,λ op cM y hy b hb=>?_⟩
 ·rcases (im cM).2 with⟨e,a1,a2⟩|⟨a,a1,a2⟩
  ·rw[a2];exact(sC e a1).2
  ·rw[a2];exact λ ad=>(SB a a1).2 _
 ·intro y hy
  rcases (im cM).2 with⟨e,a1,a2⟩|⟨a,a1,a2⟩
  ·rw[a2] at hy
   rcases (sC e a1).1 y hy with⟨b,b1,b2|⟨b2,b3⟩⟩|⟨a,b1,b2,b3,b4⟩|⟨a,b1,b2,b3,b4⟩
   ·exact .inr (.inl (h1 _ b b1 b2))
   ·exact .inr (.inr ⟨h2 _ b b1 b2,b3⟩)
   ·exact .inr (.inl (h3 _ ⟨a,b1,b2,b3,b4⟩))
   ·exact .inl ⟨⟨a.block,by rw[b1];rfl,b2⟩,b3,λ e=>by cases b4 e⟩
  ·rw[a2,(SB a a1).1] at hy;cases hy
 ·rcases (im cM).2 with⟨e,a1,a2⟩|⟨a,a1,a2⟩
  ·rw[a2] at hy
   rcases (sC e a1).1 y hy with⟨b',b1,b2|⟨b2,b3⟩⟩|⟨a,b1,b2,_⟩|⟨a,b1,b2,_⟩
   ·rw[b1] at hb;cases hb;exact hz _ (.inl b2)
   ·rw[b1] at hb;cases hb;exact hz _ (.inr (.inl b2))
   ·rw[b1] at hb;cases hb;exact hz _ (.inr (.inr (.inr (.inr b2))))
   ·rw[b1] at hb;cases hb;exact hz _ (.inr (.inr (b2.elim .inl λ e=>.inr (.inl e))))
  ·rw[a2,(SB a a1).1] at hy;cases hy
theorem flags(h:RI ph F cF csF W0 dead n1 R0 wg gr x rc bm j Z q gs w t){f:aI->aI}(hf:Wk w' f)(wake:Bool)(hwk:wake=ae->∀(bl:Bool) (g:aI),(bl=ae->g.offers=ak)->g.status=.running->f (blk bl g)=blk aa g):
  ∃(yA:Bool) (fl:Nat->Bool),(f (blk bm x.g)=blk yA x.g/\(yA=ae->bm=ae)/\(wake=ae->yA=aa))/\
   ∀s y r bl,s<j->Z s=.live y r bl->f (blk bl y.g)=blk (fl s) y.g/\(fl s=ae->bl=ae)/\(wake=ae->fl s=aa):=by
 have one:∀(bl:Bool) (g:aI),(bl=ae->g.offers=ak)->g.status=.running->∃b:Bool,f (blk bl g)=blk b g/\(b=ae->bl=ae)/\(wake=ae->b=aa):=by
  intro bl g ho hr
  cases hw:wake with
  |true=>exact⟨aa,hwk hw bl g ho hr,λ e=>(by cases e),λ _=>rfl⟩
  |false=>
   obtain⟨b,h1,h2⟩:=zst hf ho hr
   exact⟨b,h1,h2,λ e=>by cases e⟩
 have hm:=one bm x.g (λ e=>(h.bmo e).2) ((rR h.beh).1 (Ww h.kz))
 have hz:∀s,∃b:Bool,∀y r bl,s<j->Z s=.live y r bl->f (blk bl y.g)=blk b y.g/\(b=ae->bl=ae)/\(wake=ae->b=aa):=by
  intro s
  cases hs:Z s with
  |live y r bl=>
   by_cases hj:s<j
   ·obtain⟨_,h1,h2,_,h3,_⟩:=h.wk s y r bl hj hs
    obtain⟨b,hb⟩:=one bl y.g h1 ((yU h2).1 h3)
    refine⟨b,λ y' r' bl' _ e=>?_⟩
    cases e
    exact hb
   ·exact⟨aa,λ _ _ _ h=>absurd h hj⟩
  |no=>exact⟨aa,λ _ _ _ _ e=>by cases e⟩
  |gone a b=>exact⟨aa,λ _ _ _ _ e=>by cases e⟩
 obtain⟨yA,hm⟩:=hm
 obtain⟨fl,hz⟩:=Classical.axiomOfChoice hz
 exact⟨yA,fl,hm,hz⟩
theorem RI.zrk(h:RI ph F cF csF W0 dead n1 R0 wg gr x rc bm j Z q gs w t):x.g.status=.running:=(rR h.beh).1 (Ww h.kz)
theorem RI.free(h:RI ph F cF csF W0 dead n1 R0 wg gr x rc bm j Z q gs w t):∀o∈gs,o.status≠.blocked\/o.offers=ak:=by
 intro o ho
 obtain⟨i,hi⟩:=dX.1 ho
 by_cases e0:i=0
 ·subst e0
  rw[h.main] at hi
  cases hi
  cases hb:bm with
  |false=>exact .inl (by show x.g.status≠_;rw[h.zrk];decide)
  |true=>exact .inr (P7 (h.bmo hb).2)
 ·by_cases hlv:∃s,s<j/\i=gr s/\(Z s).isLive
  ·obtain⟨s',h1,rfl,h3⟩:=hlv
   cases SC:Z s' with
   |live y' r' bl'=>
    obtain⟨a1,a2,a3,_,a4,_⟩:=h.wk s' y' r' bl' h1 SC
    rw[a1] at hi
    cases hi
    have a5:y'.g.status=.running:=(yU a3).1 a4
    cases hb:bl' with
    |false=>exact .inl (by show y'.g.status≠_;rw[a5];decide)
    |true=>exact .inr (P7 (a2 hb))
   |no=>rw[SC] at h3;exact h3.elim
   |gone a b=>rw[SC] at h3;exact h3.elim
  ·obtain⟨d,h1,_⟩:=h.lv i o e0 hlv hi
   rcases h1.status with e|e<;>exact .inl (by rw[e];decide)
theorem Hb{k:Nat}{g:aI}{es:Array bT}{acts:List jX}(SB:∀a∈acts,LG a):Deaf (t++opsOf k g es acts) k=cG (Deaf t k) es:=by
 unfold opsOf
 rw[<-Array.append_assoc,Deaf_still _ _ _ λ op cM=>?_,Deaf_own]
 simp only[List.mem_toArray,List.mem_map] at cM
 obtain⟨a,ha,rfl⟩:=cM
 exact⟨(SB a ha).2 _,(SB a ha).2 _⟩
theorem RI.worker(Dy:∀s WS RS w aJ,s<2->gY ph s (λ b=>WS b\/RS b) w aJ->F s WS RS w->F s WS RS aJ)(h:RI ph F cF csF W0 dead n1 R0 wg gr x rc bm j Z q gs w t)(r1:Rk)(hs:s<j){y:Nw}{r:Rk}(hz:Z s=.live y r aa)
  {g':aI} {es:Array bT} {acts:List jX} (hmv:Mv an aa y.g w g' w' es acts) (he:EfR ph y.WS s w w') {z':lj} (hno:z'≠.no) (hrs:z'.rs=y.RS) (O3:∀b,z'.ws b↔y.WS b\/(w.heap.size<=b/\b<w'.heap.size/\¬ph.sh b))
  (hl:∀y' r' bl,z'=.live y' r' bl->bl=aa/\Rk.lt r' r/\Bh an ph s (s == 0) (F s) r' { y' with w:=w' }/\y'.g=g'/\y'.k≠0/\cG y.T.deaf es=y'.T.deaf/\(wy y'.T.pc=ae\/y'.T=at_ y'.T.pc))
  (hgo:∀A B,z'=.gone A B->∃n,nm an n (cG y.T.deaf es) g') (sC:∀e∈es,tE ph s aa z'.ws y.RS e) (SB:∀a∈acts,LG a)
  (hmu:z'.DN=ae->(∃r,xd (DdL (AS ph dead)) (stA ph.Wg) (t++opsOf (gr s) y.g es acts) (gr s) r)/\F s z'.ws z'.rs w')
  (wake:Bool) (hwk:wake=ae->mayWake an y.g=ae/\g'.status=.running/\acts=[]/\bU an aa y.g w=.go g' w' es)
  (jF:∃mu ms st sm ρ,zaH ph j x.T (s0 Z s z') w' mu ms st sm ρ/\(wake=ae\/((bm=ae->sm=0)/\∀s' y' r',s'<j->s'≠s->Z s'=.live y' r' ae->wy y'.T.pc=ae/\mv (s' == 0) y'.T ⟨mu,ms,KKi,0⟩=[])))
  (hV:Vc j (DZ (s0 Z s z'))<=Vc j (DZ Z)):
  ∃m' ops gs' yA Z' q',runT an (crowd gs w sl) (gr s)=(.next m',ops)/\m'=crowd gs' w' sl/\gs'.size=gs.size/\RI ph F cF csF W0 dead n1 R0 wg gr x rc yA j Z' q' gs' w' (t++ops)/\Ms.lt (As r1 rc Z' (Jw gs' q' yA Z')) (As r1 rc Z (Jw gs q bm Z)):=by
 have hj2:=E4 h.jT
 obtain⟨hg,hyo,hyb,hyd,hyk,hyp⟩:=h.wk s y r aa hs hz
 obtain⟨hk0,zgb⟩:=h.kd0 s hs
 have hyr:y.g.status=.running:=(yU hyb).1 hyk
 have hg':gs[gr s]?=ab y.g:=hg
 have hT:x.T≠.st:=λ e=>by
  have:=h.jT
  rw[e] at this
  simp only[jOk] at this
  omega
 have UJ:=h.free
 have eB:∃f,Wk w' f/\runT an (crowd gs w sl) (gr s)=(.next (crowd ((gs.map f).setIfInBounds (gr s) g') w' sl),opsOf (gr s) y.g es acts)/\(wake=ae->∀(bl:Bool) (g:aI),(bl=ae->g.offers=ak)->g.status=.running->f (blk bl g)=blk aa g):=by
  have fh:(gr s == 0)=aa:=by simpa using hk0
  cases hw:wake with
  |true=>
   obtain⟨a1,a2,a3,a4⟩:=hwk hw
   subst a3
   refine⟨woken an y.g g' w',xw _ _ _ _,?_,λ _ bl g ho hr=>zfm a1 a2 ho hr⟩
   rw[jN (sl:=sl) hg' (by rw[fh];exact a4),CU]
  |false=>
   obtain⟨f,h1,_,h2⟩:=OU (sl:=sl) hg' UJ (by rw[fh];exact hmv)
   exact⟨f,h1,h2,λ e=>by cases e⟩
 obtain⟨f,hf,eB,hfw⟩:=eB
 obtain⟨yA,fl,⟨m1,m2,m3⟩,hfl⟩:=flags h hf wake hfw
 let Z':Nat->lj:=λ i=>if i=s then z' else nn (Z i) (fl i)
 have Zs:Z' s=z':=by simp[Z']
 have Zo:∀i,i≠s->Z' i=nn (Z i) (fl i):=λ i hi=>by simp[Z',hi]
 have Zst:∀i,(Z' i).stage=(s0 Z s z' i).stage:=λ i=>by
  by_cases e:i=s
  ·subst e;rw[Zs,mC]
  ·rw[Zo i e,rB Z z' e,zz]
 have Ztb:∀i fX,(Z' i).jV fX=(s0 Z s z' i).jV fX:=λ i fX=>by
  by_cases e:i=s
  ·subst e;rw[Zs,mC]
  ·rw[Zo i e,rB Z z' e,ui]
 have Zrs:∀i,(Z' i).rs=(Z i).rs:=λ i=>by
  by_cases e:i=s
  ·subst e;rw[Zs,hrs,hz];rfl
  ·rw[Zo i e,qN]
 have Zws:∀i,i≠s->(Z' i).ws=(Z i).ws:=λ i e=>by rw[Zo i e,qO]
 have Zow:∀b,(Z' s).ws b↔(Z s).ws b\/(w.heap.size<=b/\b<w'.heap.size/\¬ph.sh b):=λ b=>by rw[Zs,hz];exact O3 b
 have yH:=h.mem.grow he.size Zrs Zws Zow
 have zuI:∀b,ph.sh b->b<w.heap.size:=h.sz hT
 have Gq:∀i,i<j->i≠s->∀(St:Nat->Prop),(∀b,St b->(Z i).ws b\/(Z i).rs b)->gY ph i St w w':=λ i hi fh St hSt=>he.rly (by omega) fh λ b hb=>by
  have hzs:∀b,y.WS b->(Z s).ws b:=λ b hb=>by rw[hz];exact hb
  rcases hSt b hb with h1|h1
  ·obtain⟨_,a2,a3⟩:=h.mem.wf i b h1
   exact⟨a2,λ hy=>fh (h.mem.ff i s b h1 (hzs b hy)),a3⟩
  ·obtain⟨a1,a2,_,a4⟩:=h.mem.rf i b h1
   exact⟨a1,λ hy=>a4 s (hzs b hy),a2⟩
 have zvE:Jy ph { x with w:=w } w':=by
  refine⟨he.rly (aA _) (by omega) λ b hb=>?_,λ e=>absurd e hT⟩
  have hzs:∀b,y.WS b->(Z s).ws b:=λ b hb=>by rw[hz];exact hb
  have key:(x.WS b\/x.RS b)\/x.XS b->b<w.heap.size/\¬y.WS b/\¬ph.sh b:=by
   rintro ((hb|hb)|hb)
   ·obtain⟨_,a2,a3⟩:=h.mem.wm b hb
    exact⟨a2,λ hy=>h.mem.mf s b hb (hzs b hy),a3⟩
   ·have h1:=h.mem.rm b hb
    have h2:=h.mem.le
    refine⟨by omega,λ hy=>?_,λ DC=>?_⟩
    ·have:=(h.mem.wf s b (hzs b hy)).1;omega
    ·have:=h.mem.shl b DC;omega
   ·exact absurd (h.xs b hb).1 hT
  exact key hb
 have wv:=zsu (k:=gr s) (g:=y.g) (w':=w') (Wx:=WR ph j gr x Z') (Rx:=RR j gr x Z') sC SB
  (λ l b h1 h2=>.inr ⟨s,hs,rfl,.inl ⟨b,h1,by rw[Zs];exact h2⟩⟩) (λ l b h1 h2=>.inr ⟨s,hs,rfl,b,h1,by rw[Zs,hrs];exact h2⟩) (λ l h1=>.inr ⟨s,hs,rfl,.inr h1⟩)
  (λ b hb=>by
   rcases hb with hb|hb|hb
   ·rw[<-Zs] at hb;exact(yH.wf s b hb).2.1
   ·have:=(yH.rf s b (by rw[Zs,hrs];exact hb)).1;exact this
   ·exact aY (zuI b hb) he.size)
 obtain⟨o1,o2,o3⟩:=wv
 have hold:∀b,b<n1->w'.heap[b]?=w.heap[b]?:=λ b hb=>by
  have h2:=h.mem.le
  refine he.blk b (by omega) (λ hy=>?_) (λ DC=>?_)
  ·have:=(h.mem.wf s b (by rw[hz];exact hy)).1;omega
  ·have:=h.mem.shl b DC;omega
 have DD:TI (ShL ph) (DdL (AS ph dead)) (wkR j gr) (WR ph j gr x Z') (RR j gr x Z') t:=by
  have new:∀{l:Loc} {b:Nat},vj l=ab b->w.heap.size<=b->∀i y,touchAt t i=ab y->y.loc≠l:=λ h1 h2 i y hy e=>by
   have:=h.cb.bnd i y hy _ (e▸h1)
   omega
  refine h.ti.WE (λ g l hw=>?_) (λ g l hr=>?_) (λ l hl=>.inl hl) (λ l hl=>hl) (λ k hk=>hk)
  ·rcases hw with hw|⟨i,hi,rfl,⟨b,h1,h2⟩|h1⟩
   ·exact .inl (.inl hw)
   ·by_cases e:i=s
    ·subst e
     rcases (Zow b).1 h2 with h3|⟨h3,_⟩
     ·exact .inl (.inr ⟨i,hi,rfl,.inl ⟨b,h1,h3⟩⟩)
     ·exact .inr (new h1 h3)
    ·rw[Zws i e] at h2
     exact .inl (.inr ⟨i,hi,rfl,.inl ⟨b,h1,h2⟩⟩)
   ·exact .inl (.inr ⟨i,hi,rfl,.inr h1⟩)
  ·rcases hr with hr|⟨i,hi,rfl,b,h1,h2⟩
   ·exact .inr (.inl (.inl hr))
   ·rw[Zrs] at h2
    exact .inr (.inl (.inr ⟨i,hi,rfl,b,h1,h2⟩))
 obtain⟨mu,ms,st,sm,ρ,Ar,zmA⟩:=jF
 have tH:(((gs.map f).setIfInBounds (gr s) g')).size=gs.size:=eW
 have hlv:∃q',ve an ((gs.map f).setIfInBounds (gr s) g') (t++opsOf (gr s) y.g es acts) (λ i=>∃s,s<j/\i=gr s/\(Z' s).isLive) q':=by
  have O0:∃s',s'<j/\gr s=gr s'/\(Z s').isLive:=⟨s,hs,rfl,by rw[hz];trivial⟩
  have h5:=(h.lv.move (w':=w') (g':=g') hf (.inr O0)).app o1 (.inr O0)
  cases SC:z' with
  |no=>exact absurd SC hno
  |live y' r' bl=>
   refine⟨q,h5.sub λ i hi=>?_⟩
   obtain⟨s',a1,a2,a3⟩:=hi
   refine⟨s',a1,a2,?_⟩
   by_cases e:s'=s
   ·subst e;rw[Zs,SC];trivial
   ·rw[Zo s' e];exact(vM _ _).2 a3
  |gone A B=>
   obtain⟨n,hq⟩:=hgo A B SC
   refine⟨_,h5.more (k:=gr s) (n:=n) (d:=cG y.T.deaf es) hk0 (λ g1 hg1=>?_) λ i hi=>?_⟩
   ·rw[gX zgb] at hg1
    cases hg1
    exact⟨hq,by rw[Hb SB,hyd]⟩
   ·obtain⟨s',a1,a2,a3⟩:=hi
    by_cases e:s'=s
    ·subst e;exact .inr a2
    ·exact .inl ⟨s',a1,a2,by rw[Zo s' e];exact(vM _ _).2 a3⟩
 obtain⟨q',hlv⟩:=hlv
 refine⟨_,_,_,yA,Z',q',eB,rfl,tH,?_,?_⟩
 ·refine⟨?_,λ e=>h.bmo (m2 e),PD (x:={ x with w:=w }) h.beh zvE,?_,?_,h.jT,hlv,λ i hi=>?_,λ i hi=>?_,λ i hi=>by rw[tH];exact h.kd0 i hi,h.SL,λ i y' r' bl hi tn=>?_,λ i hi hm=>?_,yH,h.xs,?_,h.gl,DD.app yH.excl (.inr ⟨s,hs,rfl⟩) o2,?_,λ _ b hb=>aY (zuI b hb) he.size,λ _=>?_⟩
  ·rw[rU 0 (dr hk0),h.main]
   exact congrArg ab m1
  ·rw[nC t hk0 _ o1];exact h.deaf
  ·refine ziN ?_ h.kz
   have e:Vc j (DZ Z')=Vc j (DZ (s0 Z s z')):=sumTo_congr λ i _=>by simp only[DZ,Zst i]
   rw[e];exact hV
  ·have fh:i≠s:=by omega
   rw[Zo i fh,h.no i hi];rfl
  ·by_cases e:i=s
   ·subst e;rw[Zs];exact hno
   ·rw[Zo i e]
    exact λ hn=>h.yes i hi ((J5 _ _).1 hn)
  ·by_cases e:i=s
   ·subst e
    rw[Zs] at tn
    obtain⟨rfl,_,b3,rfl,b5,b6,b7⟩:=hl y' r' bl tn
    refine⟨gX zgb,(λ e=>by cases e),b3,by rw[Hb SB,hyd];exact b6,b5,b7⟩
   ·rw[Zo i e] at tn
    obtain⟨rfl,OC,AL⟩:=nQ tn
    obtain⟨a1,a2,a3,a4,a5,a6⟩:=h.wk i y' r' OC hi AL
    obtain⟨b1,b2,_⟩:=hfl i y' r' OC hi AL
    have hki:gr i≠gr s:=λ ek=>e (h.SL i s hi hs ek)
    refine⟨?_,λ e=>a2 (b2 e),?_,?_,a5,a6⟩
    ·rw[rU _ hki,a1]
     exact congrArg ab b1
    ·exact WL (x:={ y' with w:=w }) a3 (Gq i hi e (Nw.St { y' with w:=w }) λ b hb=>by rw[AL];exact hb)
    ·rw[nC t (dr hki) _ o1];exact a4
  ·by_cases e:i=s
   ·subst e
    rw[Zs] at hm ⊢
    exact hmu hm
   ·rw[Zo i e,zy] at hm
    obtain⟨⟨r2,c1⟩,c2⟩:=h.rel i hi hm
    have hki:gr i≠gr s:=λ ek=>e (h.SL i s hi hs ek)
    refine⟨⟨r2,c1.appOther o1 (dr hki)⟩,?_⟩
    rw[Zws i e,Zrs]
    exact Dy i _ _ _ _ (by omega) (Gq i hi e _ λ b hb=>hb) c2
  ·exact h.gh.right λ a b l r=>hold b (h.gl a b l r)
  ·refine h.cb.step he.size (λ b hb=>hold b (aY hb h.mem.wn)) (dh tH.symm) he.os he.output λ op cM=>⟨by rw[o1 op cM,tH];exact zgb,o3 op cM⟩
  ·refine⟨mu,ms,st,sm,ρ,⟨Ar.mA,Ar.gA,Ar.md.congr λ i _=>by simp only[DZ,Zst i],?_,λ i y' r' bl hi tn hp=>?_⟩,⟨λ e=>?_,λ i y' r' hi tn=>?_⟩⟩
   ·rw[Ztb 0,Ztb 1];exact Ar.tb
   ·by_cases e:i=s
    ·subst e
     rw[Zs] at tn
     exact Ar.kk i y' r' bl hi (by rw[mC];exact tn) hp
    ·rw[Zo i e] at tn
     obtain⟨_,OC,AL⟩:=nQ tn
     exact Ar.kk i y' r' OC hi (by rw[rB Z z' e];exact AL) hp
   ·rcases zmA with hw|⟨h1,_⟩
    ·rw[m3 hw] at e;cases e
    ·exact h1 (m2 e)
   ·by_cases e:i=s
    ·subst e
     rw[Zs] at tn
     have:=(hl y' r' ae tn).1
     cases this
    ·rw[Zo i e] at tn
     obtain⟨VP,OC,AL⟩:=nQ tn
     obtain⟨_,b2,b3⟩:=hfl i y' r' OC hi AL
     have X5:OC=ae:=b2 VP.symm
     subst X5
     rcases zmA with hw|⟨_,h2⟩
     ·rw[b3 hw] at VP;cases VP
     ·exact h2 i y' r' hi e AL
 ·have hmr:Rk.lt (Z' s).mr (Z s).mr:=by
   rw[Zs,hz]
   cases SC:z' with
   |no=>exact absurd SC hno
   |live y' r' bl=>exact Rk.zv7 (hl y' r' bl SC).2.1
   |gone A B=>exact Rk.zrw r
  have Jv:s=0\/s=1:=by omega
  rcases Jv with rfl|rfl
  ·exact .a rfl rfl hmr
  ·refine .b rfl rfl ?_ hmr
   show (Z' 0).mr=(Z 0).mr
   rw[Zo 0 (by omega),J4]
end
end Rn
namespace Rn
open Go Go.Conc Go.ConcM
open Go.ConcN (sumTo upd upd_same upd_ne sumTo_congr sumTo_upd CTag WD Deaf_still Vc cnt Vc_upd)
open Go.ConcR (KK WgAt stA smA rd wr mk DC0)
def Wv(fX:Bool):Th:=at_ (if fX then .kd else .wr)
theorem Bd{fX:Bool}{y:Nw}{r:Rk}{bl:Bool}:(lj.live y r bl).jV fX=if wy y.T.pc then y.T else Wv fX:=rfl
section
variable{Z:Nat->lj}{s j:Nat}{z':lj}
theorem zhR(i:Nat):(DZ (s0 Z s z') i).stage=(upd (DZ Z) s ⟨z'.stage,0,0⟩ i).stage:=by
 by_cases e:i=s
 ·subst e;simp[DZ,mC,upd_same]
 ·rw[upd_ne _ _ e];simp[DZ,rB Z z' e]
theorem zhY{tag:CTag}{st sm:Int}(h:Go.ConcN.Mode j (upd (DZ Z) s ⟨z'.stage,0,0⟩) tag st sm):Go.ConcN.Mode j (DZ (s0 Z s z')) tag st sm:=h.congr λ i _=>zhR i
theorem zsp:Vc j (DZ (s0 Z s z'))=Vc j (upd (DZ Z) s ⟨z'.stage,0,0⟩):=sumTo_congr λ i _=>by simp only[cnt,zhR i]
theorem GR(hs:s<j)(h:cnt ⟨z'.stage,0,0⟩<=cnt (DZ Z s)):Vc j (DZ (s0 Z s z'))<=Vc j (DZ Z):=by
 have h1:=Vc_upd (DZ Z) (⟨z'.stage,0,0⟩:WD) hs
 have h2:Vc j (DZ (s0 Z s z'))=Vc j (upd (DZ Z) s ⟨z'.stage,0,0⟩):=zsp
 omega
end
section
variable{ph:Ph}{F:Nat->(Nat->Prop)->(Nat->Prop)->ai->Prop}{cF:aB}{csF:List aB}{W0:ai}{dead:Nat->Prop}{n1:Nat}{R0:BR}{wg:ai}{gr:Nat->Nat}
variable{x:Nm}{rc:Rk}{bm:Bool}{j:Nat}{Z:Nat->lj}{q:Nat->Nat}{gs:Array aI}{w w':ai}{t:pk}{sl:Option (Nat×Nat)}
def Wi(ph:Ph)(F:Nat->(Nat->Prop)->(Nat->Prop)->ai->Prop)(cF:aB)(csF:List aB)(W0:ai)(dead:Nat->Prop)(n1:Nat)(R0:BR)(wg:ai)(gr:Nat->Nat)(x:Nm)(rc:Rk)(j:Nat)(r1:Rk)(μ:Ms)(gs:Array aI)(w:ai)(sl:Option (Nat×Nat))(t:pk)(i:Nat):Prop:=
 ∃m' ops gs' w' yA Z' q',runT an (crowd gs w sl) i=(.next m',ops)/\m'=crowd gs' w' sl/\gs'.size=gs.size/\RI ph F cF csF W0 dead n1 R0 wg gr x rc yA j Z' q' gs' w' (t++ops)/\Ms.lt (As r1 rc Z' (Jw gs' q' yA Z')) μ
variable{s:Nat}
theorem zsi{z':lj}{sh sh':Sh}(hs:s<2):(⟨(s0 Z s z' 0).jV ae,(s0 Z s z' 1).jV aa,sh'⟩:GS)=(⟨(Z 0).jV ae,(Z 1).jV aa,sh⟩:GS).put (s == 0) (z'.jV (s == 0)) sh':=by
 have h2:s=0\/s=1:=by omega
 rcases h2 with rfl|rfl<;>simp[s0,GS.put]
theorem zpf{sh:Sh}(hs:s<2):(⟨(Z 0).jV ae,(Z 1).jV aa,sh⟩:GS).th (s == 0)=(Z s).jV (s == 0):=by
 have h2:s=0\/s=1:=by omega
 rcases h2 with rfl|rfl<;>rfl
theorem vC{z':lj}(hs:s<2){mu ms st sm st' sm':Int}{ρ:Nat}{T:MT}(h:zaH ph j T Z w mu ms st sm ρ)(hm:MuAt ph.tM ph.Mu w' mu ms)(hg:WgAt ph.tW ph.Wg w' st' sm')(ht:z'.jV (s == 0)=(Z s).jV (s == 0))
  (Yf:Go.ConcN.Mode j (upd (DZ Z) s ⟨z'.stage,0,0⟩) (nk aa T) st' sm') (hk:∀y r bl,z'=.live y r bl->wy y.T.pc=ae->ρ<y.k):zaH ph j T (s0 Z s z') w' mu ms st' sm' ρ:=by
 refine⟨hm,hg,zhY Yf,?_,λ i y r bl hi hz hp=>?_⟩
 ·have h2:s=0\/s=1:=by omega
  have:=h.tb
  rcases h2 with rfl|rfl
  ·have e1:(s0 Z 0 z' 0).jV ae=(Z 0).jV ae:=by rw[mC];exact ht
   have e2:(s0 Z 0 z' 1).jV aa=(Z 1).jV aa:=by rw[rB Z z' (by omega)]
   rw[e1,e2];exact this
  ·have e1:(s0 Z 1 z' 1).jV aa=(Z 1).jV aa:=by rw[mC];exact ht
   have e2:(s0 Z 1 z' 0).jV ae=(Z 0).jV ae:=by rw[rB Z z' (by omega)]
   rw[e1,e2];exact this
 ·by_cases e:i=s
  ·subst e;rw[mC] at hz;exact hk y r bl hz hp
  ·rw[rB Z z' e] at hz;exact h.kk i y r bl hi hz hp
theorem E2{WS RS:Nat->Prop}{e:bT}(h:Bk2 ph.Mu ph.Wg e):tE ph s aa WS RS e:=by
 rcases h with h|h|⟨a,b,rfl,h⟩
 ·obtain⟨l,b,c⟩:=e
  simp only at h
  subst h
  exact⟨λ x hx=>by simp[aP,cB] at hx,λ a h=>by simp[aP] at h⟩
 ·obtain⟨l,b,c⟩:=e
  simp only at h
  subst h
  exact⟨λ x hx=>by simp[aP,cB] at hx,λ a h=>by simp[aP] at h⟩
 ·refine⟨λ x hx=>?_,λ a h=>by cases b<;>cases h⟩
  have:x=⟨.cell a,b,.atomic⟩:=by cases b<;>simpa [aP,cB,eq_comm] using hx
  subst this
  exact .inr (.inr ⟨a,rfl,h,by simp,by simp⟩)
theorem zhm{WS RS:Nat->Prop}{m:Mark}(h1:(MemAct.mark m).touch?=ak)(h2:∀a,m≠.release a):∀e∈#[mk m],tE ph s aa WS RS e:=by
 intro e he
 simp at he
 subst he
 exact⟨λ x hx=>(by simp only[mk,aP,h1] at hx;cases hx),λ a h=>by simp only[mk,aP,MemAct.mark.injEq] at h;exact h2 a h⟩
theorem JO{k d:Nat}{g:aI}{es:Array bT}(hd:Deaf t k=d)(h:∃r,xd (DdL (AS ph dead)) (stA ph.Wg) t k r)(hb:∀e∈es,Bk2 ph.Mu ph.Wg e)(ht:∀j e,es[j]?=ab e->(aP e).touch?=ak\/0<cG d (es.extract 0 j)):
  ∃r,xd (DdL (AS ph dead)) (stA ph.Wg) (t++opsOf k g es []) k r:=by
 obtain⟨r,h⟩:=h
 rw[CU]
 refine⟨r,h.appOwn _ _ es λ i e he=>?_⟩
 rcases ht i e he with h1|h1
 ·exact .inl h1
 ·rcases hb e (Array.mem_of_getElem? he) with h2|h2|⟨a,b,rfl,h2⟩
  ·obtain⟨l,b,c⟩:=e
   simp only at h2
   subst h2
   exact .inl (by simp[aP,cB])
  ·obtain⟨l,b,c⟩:=e
   simp only at h2
   subst h2
   exact .inl (by simp[aP,cB])
  ·exact .inr ⟨⟨a,b,rfl,a.block,rfl,.inr h2⟩,by rw[hd];exact h1⟩
theorem RI.block(h:RI ph F cF csF W0 dead n1 R0 wg gr x rc bm j Z q gs w t)(r1:Rk)(hs:s<j){y:Nw}{r:Rk}(hz:Z s=.live y r aa)(ho:y.g.offers=ak)(dz:bU an aa y.g w=.go { y.g with status:=.blocked } w #[])
  (hb:∃mu ms st sm ρ,zaH ph j x.T Z w mu ms st sm ρ/\zqJ j bm Z mu ms sm/\wy y.T.pc=ae/\mv (s == 0) y.T ⟨mu,ms,KKi,0⟩=[]):
  Wi ph F cF csF W0 dead n1 R0 wg gr x rc j r1 (As r1 rc Z (Jw gs q bm Z)) gs w sl t (gr s):=by
 have hj2:=E4 h.jT
 obtain⟨hg,_,hyb,hyd,hyk,hyp⟩:=h.wk s y r aa hs hz
 obtain⟨hk0,zgb⟩:=h.kd0 s hs
 have hg':gs[gr s]?=ab y.g:=hg
 have fh:(gr s == 0)=aa:=by simpa using hk0
 have eB:=jN (P:=an) (sl:=sl) (i:=gr s) (w:=w) hg' (by rw[fh];exact dz)
 have hid:woken an y.g { y.g with status:=.blocked } w=id:=by
  funext o
  unfold woken
  rw[if_neg (by simp)]
  rfl
 rw[hid,Array.map_id,ofEvents_none] at eB
 let Z':Nat->lj:=s0 Z s (.live y r ae)
 have Zs:Z' s=.live y r ae:=mC _ _ _
 have Zo:∀i,i≠s->Z' i=Z i:=λ i hi=>rB Z _ hi
 have eqs:∀i,(Z' i).ws=(Z i).ws/\(Z' i).rs=(Z i).rs/\(Z' i).stage=(Z i).stage/\(∀b,(Z' i).jV b=(Z i).jV b)/\(Z' i).DN=(Z i).DN/\((Z' i).isLive↔(Z i).isLive)/\(Z' i).mr=(Z i).mr:=λ i=>by
  by_cases e:i=s
  ·subst e;rw[Zs,hz];exact⟨rfl,rfl,rfl,λ _=>rfl,rfl,Cu,rfl⟩
  ·rw[Zo i e];exact⟨rfl,rfl,rfl,λ _=>rfl,rfl,Cu,rfl⟩
 have hsz:(gs.setIfInBounds (gr s) { y.g with status:=.blocked }).size=gs.size:=by simp
 have hdz:DZ Z'=DZ Z:=by funext i;simp only[DZ,(eqs i).2.2.1]
 have gne:∀i,i≠gr s->(gs.setIfInBounds (gr s) { y.g with status:=.blocked })[i]?=gs[i]?:=λ i hi=>bt (dr hi)
 have yH:Mem ph W0 n1 x Z' w:=⟨h.mem.u9,h.mem.shl,h.mem.le,h.mem.wn,h.mem.wm,h.mem.rm,λ i b hb=>h.mem.wf i b (by rw[<-(eqs i).1];exact hb),λ i b hb=>by
  obtain⟨a1,a2,a3,a4⟩:=h.mem.rf i b (by rw[<-(eqs i).2.1];exact hb)
  exact⟨a1,a2,a3,λ i' X8=>a4 i' (by rw[<-(eqs i').1];exact X8)⟩,λ i b hb hi=>h.mem.mf i b hb (by rw[<-(eqs i).1];exact hi),λ i i' b h1 h2=>h.mem.ff i i' b (by rw[<-(eqs i).1];exact h1) (by rw[<-(eqs i').1];exact h2)⟩
 refine⟨_,_,_,w,bm,Z',q,eB,rfl,hsz,?_,?_⟩
 ·rw[Array.append_empty]
  refine⟨by rw[gne 0 (dr hk0)];exact h.main,h.bmo,h.beh,h.deaf,by rw[hdz];exact h.kz,h.jT,λ i g h0 hn VS=>?_,λ i hi=>?_,λ i hi=>?_,λ i hi=>by rw[hsz];exact h.kd0 i hi,h.SL,λ i y' r' bl hi tn=>?_,λ i hi hm=>?_,yH,h.xs,h.gh,h.gl,?_,⟨h.cb.old,h.cb.size,h.cb.bnd,h.cb.dlt,λ i op hi=>by rw[hsz];exact h.cb.ids i op hi,h.cb.os,h.cb.output⟩,h.sz,λ hT=>?_⟩
  ·have hik:i≠gr s:=λ e=>hn ⟨s,hs,e,by rw[Zs];trivial⟩
   rw[gne i hik] at VS
   exact h.lv i g h0 (λ⟨s',a1,a2,a3⟩=>hn ⟨s',a1,a2,(eqs s').2.2.2.2.2.1.2 a3⟩) VS
  ·rw[Zo i (by omega)];exact h.no i hi
  ·by_cases e:i=s
   ·subst e;rw[Zs];exact λ e=>by cases e
   ·rw[Zo i e];exact h.yes i hi
  ·by_cases e:i=s
   ·subst e
    rw[Zs] at tn
    cases tn
    exact⟨by rw[Array.getElem?_setIfInBounds];simp[zgb,blk],λ _=>ho,hyb,hyd,hyk,hyp⟩
   ·rw[Zo i e] at tn
    obtain⟨a1,a2⟩:=h.wk i y' r' bl hi tn
    exact⟨by rw[gne _ λ ek=>e (h.SL i s hi hs ek)];exact a1,a2⟩
  ·rw[(eqs i).2.2.2.2.1] at hm
   rw[(eqs i).1,(eqs i).2.1]
   exact h.rel i hi hm
  ·have e1:WR ph j gr x Z'=WR ph j gr x Z:=by
    funext g l
    simp only[WR,λ i=>(eqs i).1]
   have e2:RR j gr x Z'=RR j gr x Z:=by
    funext g l
    simp only[RR,λ i=>(eqs i).2.1]
   rw[e1,e2]
   exact h.ti
  ·obtain⟨mu,ms,st,sm,ρ,jF,ES,hp,hmv⟩:=hb
   refine⟨mu,ms,st,sm,ρ,⟨jF.mA,jF.gA,by rw[hdz];exact jF.md,by rw[(eqs 0).2.2.2.1,(eqs 1).2.2.2.1];exact jF.tb,λ i y' r' bl hi tn hpi=>?_⟩,⟨ES.hm,λ i y' r' hi tn=>?_⟩⟩
   ·by_cases e:i=s
    ·subst e;rw[Zs] at tn;cases tn;exact jF.kk i y r aa hi hz hpi
    ·rw[Zo i e] at tn;exact jF.kk i y' r' bl hi tn hpi
   ·by_cases e:i=s
    ·subst e;rw[Zs] at tn;cases tn;exact⟨hp,hmv⟩
    ·rw[Zo i e] at tn;exact ES.hl i y' r' hi tn
 ·refine .n rfl rfl (eqs 0).2.2.2.2.2.2 (eqs 1).2.2.2.2.2.2 ?_
  show Jw _ q bm Z'<Jw gs q bm Z
  unfold Jw
  rw[hsz]
  have Jv:s=0\/s=1:=by omega
  rcases Jv with rfl|rfl
  ·rw[Zs,Zo 1 (by omega),hz];simp[lj.bit]
  ·rw[Zs,Zo 0 (by omega),hz];simp[lj.bit]
end
end Rn
end Go.Proofs.YtdpfknhenjngcaaGreatDoor
