/-
  The company of the starter and its workers (part 6). No condition.
-/
import Derived.Test.YtelohkknmgaacaaGreatDoorZ4
import Derived.Test.YtelohkknmgaacaaGreatDoorZ5
import Derived.Test.YtelohkknmgaacaaGreatDoorZ3
import Derived.Conc.Own5
import Derived.Conc.Events
import Derived.Deep.MidRow
import Derived.Test.YtelohkknmgaacaaGreatDoorZ1
import Derived.Test.YtelohkknmgaacaaGreatDoorProg
import Derived.Conc.CrowdStepC
import Derived.Conc.MuIn
import Derived.Conc.MuFacts
set_option linter.unusedSimpArgs false
set_option linter.unusedVariables false
set_option linter.unusedSectionVars false
set_option linter.defProp false
set_option maxRecDepth 100000
set_option maxHeartbeats 16000000
open Array renaming getElem?_eq_getElem→cB,ext'→iF,toList_append→fE,toList_extract→df,mem_append→qc,getElem?_modify→bh,all_eq_true_iff_forall_mem→aQ,size_push→y6,getElem?_push→bx,mem_iff_getElem?→eA,getElem?_eq_some_iff→ab,foldl_toList→iJ,toList_zipIdx→ia,eq_empty_iff_forall_not_mem→oy,append_empty→gg,getElem?_setIfInBounds→bM
open Bool renaming false_eq_true→bt
open Classical renaming choose→dP
open Go renaming World→V,Frame→ag,Event→bB,Value→Y,Addr→bX,TypeId→ah,loadCellsFrom→iq,TypeDesc→ej,TypeInfo→iC,loadVar→dx,storeCells→l5,storeVar→nh,execOp→aG,stepG→bg,Operand→aU,zeroValue→c9,Frame.enter→aF,Item→mZ,Deferred→dI,Frame.at→lW,doReturn→qT,Program→al,Conc.Goes.stop→ba,Goroutine→av,deafBehind→cu,stepG.apply→cD,Trace→nb,MemAct→ic
open Go.Act renaming eval→a8
open Go.CallKind renaming early→jW
open Go.Conc renaming stepG_mark0→e7,stepG_cas_hit→ir,stepG_markAt→fu,stepG_cas_miss→pj,goes_go→qx,stepG_add_atomic→gd,seen_none→sV,QuitsD→lR,stepG_load_atomic→js,stepG_semacquire_wait→ly,stepG_semacquire→qt,Deaf_other→l1,again_running→vW,touchAt→qA,getElem?_append_cases→dW,runT_crowd_go→gr,ofEvents_none→qL
open Go.Conc.Goes renaming step→nS
open Go.ConcM renaming evStop_book→bf,goes_pad→jg,book_rw→sC,OsLater→oM,EvStop→lj
open Go.ConcM.Th renaming deaf→cp
open Go.ConcN renaming upd_same→kL,upd_ne→xW
open Go.ConcR.Gen renaming x_disable_n→vt,x_disable_b→vp,x_disable_x→vu,x_disable_f→vq,x_enable_n→jA,x_enable_b→jy,x_enable_x→jB,x_enable_f→jz,x_acquire_n→og,x_acquire_b→od,x_acquire_x→oh,x_acquire_f→oe,x_loadU64_n→rF,x_loadU64_b→rD,x_loadU64_x→rG,x_loadU64_f→rE,x_semacquire_n→uq,x_semacquire_b→um,x_semacquire_x→uu,x_semacquire_f→uo
open Go.Deferred renaming ofValue→ey
open Go.Event renaming mute→EC
open Go.Frame renaming oper?→AO,eval_at→kV
open Go.GStep renaming after→bP
open Go.Instr renaming loadAt→dz,storeAt→jG,indexAt→gm,sureAddr→cC,fill→ep,build→jj,index→kl
open Go.IntKind renaming i64→aD,u64→nY
open Go.MemAct renaming ofEvent→aI,touch?→cd
open Go.MemOp renaming ofEvents→cM
open Go.Region renaming wanted→ar
open Go.Value renaming agg→nU
open Go.stepG renaming exec→bT,oper→EX
open List renaming append_assoc→fv,extract_eq_take_drop→cf,length_cons→aW,drop_zero→jY,drop_set_of_lt→C2,take_add_one→cW,getElem?_set_self→pq,take_set_of_le→C3,take_left'→zd,take_of_length_le→aM,nil_append→gX,size_toArray→lE,drop_eq_nil_of_le→cK,append_nil→eu,mem_cons→bq,not_mem_nil→cV,mem_toArray→ez
open Nat renaming sub_zero→oW,le_refl→ao,le_of_eq→cI,mul_le_mul_right→bk,zero_le→a7,zero_add→ew,lt_or_ge→mz,lt_of_lt_of_le→aO,le_trans→bw,add_mul→fK,one_mul→vi
open Option renaming getD_some→db,map_eq_some_iff→ak,bind_eq_some_iff→bH
open Option.some renaming injEq→ay
open Prod.mk renaming injEq→aX
open Pure renaming pure→b8
open Bool renaming true→E,false→H
open Option renaming some→C,none→U
namespace Go.Proofs.YtelohkknmgaacaaGreatDoor
open Tryz
namespace Rn
open Go Go.Conc Go.ConcN Go.ConcM Go.RowKit Go.Conc.Lib Go.ConcR.Gen
open Go.ConcR(KK WgAt stA smA rd wr mk DC0)
section
variable{ph:Ph}{s:Nat}{St:Nat->Prop}{w0:V}{gj:Bool}{Fi:Nat->av->V->Prop}
variable{Ee:ag}{Ed:Act}{kq:Array Oper}{Eg:Nat}{kt:List Nat}{k₁:List mZ}{pB:List ag}
def zrB(g:∀l,∃m,∀w,KX ph s St w0 w->GX ph s St gj E Fi (at_ .ur) l m (G (Ee.at (Ed.put ((kq[Eg]?).bind (·.dst)) (.tuple #[])) (.inRegion kq kt::k₁)) pB) w):∀(k:Nat)(T:Th)(wst:Int),(hd T).pc≠.bad->(T.old=1->wst=0)->An ph s St w0 gj Fi Ee Ed kq Eg kt k₁ pB k T wst:=by intro k;induction k using Nat.strongRecOn with|_ k i=>
 intro T wst d h;obtain⟨p,o,n,r,q,it,ws⟩:=T;rcases ZZ _ d with⟨a,e,f,_⟩|⟨b,e,f,j,_⟩|⟨c,e,_⟩;.simp only at a e f;subst a e f;exact zvt g k p n it ws wst
 .simp only at b e f j;subst b e f j;obtain rfl:=h rfl;exact zyN k i p n it
 .simp only at c e;subst c e;exact zvu g k p n it q ws wst
def zr5(T:∀d,∃m,∀w,KX ph s St w0 w->GX ph s St gj E Fi (at_ .ur) d m (G (Ee.at (Ed.put ((kq[Eg]?).bind (·.dst)) (.tuple #[])) (.inRegion kq kt::k₁)) pB) w)(k:Nat)(w:V)(hF:KX ph s St w0 w):GX ph s St gj E Fi (at_ .r0) k 60 (G ((Go.Conc.base 204).at ⟨#[.pointer (C ⟨ph.Mu,0,U⟩),undef,undef,undef,undef,undef,undef,undef,undef,undef,undef,undef,undef,undef,undef,undef,undef,undef,undef,undef,undef,undef,undef,undef,undef,undef,undef,undef,undef,undef,undef,undef,undef,undef,undef,undef,undef,undef,undef,undef,undef,undef,undef,undef,undef,undef,undef,undef,undef,undef,undef,undef,undef,undef,undef,undef,undef,undef,undef,undef,undef,undef,undef,undef,undef,undef,undef,undef,undef,undef,undef,undef,undef,undef,undef,undef,undef,undef,undef,undef,undef,undef,undef,undef,undef,undef,undef,undef,undef,undef,undef,undef,undef,undef,undef,undef,undef,undef,undef,undef,undef,undef,undef,undef,undef,undef,undef,undef,undef,undef,undef,undef,undef,undef,undef,undef,undef,undef,undef,undef,undef,undef,undef,undef,undef,undef,undef,undef,undef,undef,undef,undef,undef,undef,undef,undef,undef,undef,undef],[]⟩ [.code Ao]) (Ee.at Ed (.inRegion kq (Eg::kt)::k₁)::pB)) w:=by
 simp only[Ao,f204,db];repeat w_go KX.rely
 s_at KX.rely;refine⟨by simp[vF],λ_=>⟨rfl,rfl,λs h _=>⟨by simp[mv],λ_=>⟨(hd {pc:=.r0,old:=s.mu},s),by simp[mv],λb=>⟨_,_,_,jk rfl rfl Y4 rfl rfl h.1.cellSt l4,h,dG.refl _,bf Y1 Y1 Y1 Y1 (by rw[if_neg (se _ b).1,(se _ b).2];simpa[cp]using book_nil (Mu:=ph.Mu) (Wg:=ph.Wg) 1),Y1,?_⟩⟩⟩⟩⟩;obtain⟨a,c⟩:=zrB T k {pc:=.r0,old:=s.mu} 0 b (λ_=>rfl);refine⟨a+20,?_⟩;walk_nrm;repeat w_but "code.loop" KX.rely
 u_c stepG_loop KX.rely hF;exact jg (c _ _ _ _ _ _ _ _ _ _ _ _ _ _ _ _ _ _ _ _ _ _ _ _ _ _ _ _ _ _ _ _ _ _ _ _ _ _ _ _ _ _ _ _ _ _ _ _ _ _ _ _ _ _ _ _ _ _ _ _ _ _ _ _ _ _ _ _ _ _ _ _ _ _ _ _ _ _ _ _ _ _ _ _ _ _ _ _ _ _ _ _ _ _ _ _ _ _ _ _ _ _ _ _ _ _ _ _ _ _ _ _ _ _ _ _ _ _ _ _ _ _ _ _ _ _ _ _ _ _ _ _ _ _ hF) _
end
section
variable{ph:Ph}{s:Nat}{St:Nat->Prop}{w0:V}{gj:Bool}{Fi:Nat->av->V->Prop}
variable{uS:ag}{mP:Act}{gL:Array Oper}{CW:Nat}{lC:List Nat}{FU:List mZ}{cs:List ag}
def zrJ(n:∀l,∃m,∀w,KX ph s St w0 w->GX ph s St gj E Fi (at_ .ur) l m (G (uS.at (mP.put ((gL[CW]?).bind (·.dst)) (.tuple #[])) (.inRegion gL lC::FU)) cs) w):∀k w,KX ph s St w0 w->GX ph s St gj E Fi (at_ .ld) k 40 (G ((Go.Conc.base 129).at ⟨#[.pointer (C ⟨ph.Mu,0,U⟩),undef,undef,undef,undef,undef],[]⟩ [.code ziI]) (uS.at mP (.inRegion gL (CW::lC)::FU)::cs)) w:=by
 intro k w hF;simp only[ziI,f129,db];repeat w_go KX.rely
 u_call func166 zkx f166 KX.rely hF;repeat w_go KX.rely
 s_at KX.rely;refine⟨by simp[vF],λ_=>⟨rfl,rfl,λs j _=>⟨by simp[mv],λ_=>⟨(at_ .l0,s),by simp[mv],λ_=>⟨_,_,_,e7 .disable Y1 rfl rfl Y4 rfl ck.f_disable (vt az) (vp az) (vu az) (vq az),j,dG.refl _,bf Y1 Y1 Y1 Y1 (by simpa[cp,mk]using book_dis (Mu:=ph.Mu) (Wg:=ph.Wg) 0),Y1,?_⟩⟩⟩⟩⟩;refine⟨30,?_⟩;walk_nrm;repeat w_go KX.rely
 s_at KX.rely;refine⟨by simp[vF],λ_=>⟨rfl,rfl,λs j _=>⟨λh=>?_,λ_=>?_⟩⟩⟩;.exfalso;revert h;simp only[mv];(repeat' split)<;>simp
 obtain⟨mu,o,p,ws⟩:=s;by_cases b:mu=0
 .subst b;refine⟨(at_ .le,⟨1,o,p,ws⟩),by simp[mv],λ_=>⟨_,_,_,ir rfl rfl Y4 rfl func203 kT kR kU .i32 kS rfl rfl rfl j.1.cellSt (j.1.thaw 0),j.pG 1,dG.set _ _ (.inl rfl),bf Y1 Y1 Y1 Y1 (by simpa[cp,mk]using sC (Mu:=ph.Mu) (Wg:=ph.Wg) 0 (muA ph.Mu) (.inl rfl)),Y1,?_⟩⟩;replace hF:=hF.Mx (dG.set (muA ph.Mu) (.int .i32 1) (.inl rfl)) (j.pG 1);refine⟨30,?_⟩;walk_nrm;repeat w_go KX.rely
  s_at KX.rely;refine⟨by simp[vF],λ_=>⟨rfl,rfl,λs j _=>⟨by simp[mv],λ_=>⟨(at_ .la,s),by simp[mv],λ_=>⟨_,_,_,e7 .enable Y1 rfl rfl Y4 rfl ck.f_enable (jA az) (jy az) (jB az) (jz az),j,dG.refl _,bf Y1 Y1 Y1 Y1 (by simpa[cp,mk]using book_en (Mu:=ph.Mu) (Wg:=ph.Wg) 0),Y1,?_⟩⟩⟩⟩⟩;refine⟨30,?_⟩;walk_nrm;repeat w_go KX.rely
  m_convG prog ck.underlying_tUP Zs zhW hF.mu.choose_spec KX.rely hF;s_at KX.rely;refine⟨by simp[vF],λ_=>⟨rfl,rfl,λs j _=>⟨by simp[mv],λ_=>⟨(at_ .ur,s),by simp[mv],λ_=>⟨_,_,_,fu .acquire Y1 rfl rfl Y4 rfl ck.f_acquire (og az) (od az) (oh az) (oe az) (by simp[a8,muA]),j,dG.refl _,rfl,Y1,?_⟩⟩⟩⟩⟩;obtain⟨c,T⟩:=n k;refine⟨c+20,?_⟩;walk_nrm;repeat w_go KX.rely
  u_leave0 func166 KX.rely hF;repeat w_go KX.rely
  u_leave0 func129 KX.rely hF;repeat w_go KX.rely
  exact jg (T _ hF) _
 .refine⟨(at_ .r0,⟨mu,o,p,ws⟩),by simp[mv,b],λ_=>⟨_,_,_,pj rfl rfl Y4 rfl func203 kT kR kU .i32 kS rfl rfl rfl j.1.cellSt (j.1.thaw 0) b,j,dG.refl _,bf Y1 Y1 Y1 Y1 (by simpa[cp,mk]using book_one (Mu:=ph.Mu) (Wg:=ph.Wg) 0 (muA ph.Mu) H (.inl rfl)),Y1,?_⟩⟩;refine⟨80,?_⟩;walk_nrm;repeat w_go KX.rely
  u_call func204 zaV f204 KX.rely hF;refine goes_le Y0 (zr5 ?_ k _ hF);intro l;obtain⟨c,T⟩:=n l;refine⟨c+20,λw hF=>?_⟩;walk_nrm;repeat w_go KX.rely
  u_leave0 func166 KX.rely hF;repeat w_go KX.rely
  u_leave0 func129 KX.rely hF;exact jg (T _ hF) _
end
section
variable{ph:Ph}{s:Nat}{St:Nat->Prop}{w0:V}{gj:Bool}{Fi:Nat->av->V->Prop}
def zll{c:ag}{v:List ag}(d:c.mode=.returning)(y:∀z,∃m,∀w,KX ph s St w0 w->GX ph s St gj H Fi (at_ (if gj then .kd else .wr)) z m (G c v) w):∀k w,KX ph s St w0 w->GX ph s St gj H Fi (at_ .ur) k 40 (G ((baseD 130).at ⟨#[.pointer (C ⟨ph.Mu,0,U⟩),undef,undef,undef,undef,undef],[]⟩ [.code ziJ]) (c::v)) w:=by
 intro k w hF;simp only[ziJ,f130,db];repeat w_go KX.rely
 u_call func167 zcL f167 KX.rely hF;repeat w_go KX.rely
 u_in KX.rely hF;obtain⟨A,x⟩:=hF.muI;rw[jk rfl rfl Y4 rfl rfl x zgr];simp only[qx];refine⟨by u_nil,?_⟩;clear x;walk_nrm;repeat w_go KX.rely
 m_convG prog ck.underlying_tUP Zs zhW hF.mu.choose_spec KX.rely hF;s_at KX.rely;refine⟨by simp[vF],λ_=>⟨rfl,rfl,λs p _=>⟨by simp[mv],λ_=>⟨(at_ .ud,s),by simp[mv],λ_=>⟨_,_,_,fu .releaseMerge Y1 rfl rfl Y4 rfl ck.f_relMerge (x_relMerge_n az) (x_relMerge_b az) (x_relMerge_x az) (x_relMerge_f az) (by simp[a8,muA]),p,dG.refl _,rfl,Y1,?_⟩⟩⟩⟩⟩;refine⟨30,?_⟩;walk_nrm;repeat w_go KX.rely
 s_at KX.rely;refine⟨by simp[vF],λ_=>⟨rfl,rfl,λs p _=>⟨by simp[mv],λ_=>⟨(at_ .u0,s),by simp[mv],λ_=>⟨_,_,_,e7 .disable Y1 rfl rfl Y4 rfl ck.f_disable (vt az) (vp az) (vu az) (vq az),p,dG.refl _,bf Y1 Y1 Y1 Y1 (by simpa[cp,mk]using book_dis (Mu:=ph.Mu) (Wg:=ph.Wg) 0),Y1,?_⟩⟩⟩⟩⟩;refine⟨30,?_⟩;walk_nrm;repeat w_go KX.rely
 s_at KX.rely;refine⟨by simp[vF],λ_=>⟨rfl,rfl,λs p _=>⟨λh=>?_,λ_=>?_⟩⟩⟩;.exfalso;revert h;simp only[mv];(repeat' split)<;>simp
 obtain⟨mu,q,r,ws⟩:=s;by_cases l:mu=1
 .subst l;refine⟨(at_ .ue,⟨0,q,r,ws⟩),by simp[mv],λ_=>⟨_,_,_,gd rfl rfl Y4 rfl func205 V8 V6 V9 .i32 V7 rfl rfl p.1.cellSt (p.1.thaw 0),p.pG _,dG.set _ _ (.inl rfl),bf Y1 Y1 Y1 Y1 (by simpa[cp,mk]using sC (Mu:=ph.Mu) (Wg:=ph.Wg) 0 (muA ph.Mu) (.inl rfl)),Y1,?_⟩⟩;refine⟨30,?_⟩;walk_nrm;simp only[show IntKind.i32.wrap (1+-1)=0 from by decide];replace hF:=hF.Mx (dG.set (muA ph.Mu) (.int .i32 0) (.inl rfl)) (p.pG 0);repeat w_go KX.rely
  s_at KX.rely;refine⟨by simp[vF],λ_=>⟨rfl,rfl,λs p _=>⟨by simp[mv],λ_=>⟨(at_ (if gj then .kd else .wr),s),by simp[mv],λ_=>⟨_,_,_,e7 .enable Y1 rfl rfl Y4 rfl ck.f_enable (jA az) (jy az) (jB az) (jz az),p,dG.refl _,bf Y1 Y1 Y1 Y1 (by cases gj<;>simpa[cp,mk]using book_en (Mu:=ph.Mu) (Wg:=ph.Wg) 0),Y1,?_⟩⟩⟩⟩⟩;obtain⟨i,T⟩:=y k;refine⟨i+12,?_⟩;walk_nrm;repeat w_go KX.rely
  u_leave0 func167 KX.rely hF;repeat w_go KX.rely
  (u_in KX.rely hF;rw[stepG_leave_deferred rfl rfl func130 (results_none rfl _ _ _) (events_results_none rfl _ _) d];simp only[qx];refine⟨by u_nil,?_⟩);exact jg (T _ hF) _
 by_cases n:mu=9
 .subst n;refine⟨({pc:=.uc,old:=8,nw:=2},⟨8,q,r,ws⟩),by simp[mv],λ_=>⟨_,_,_,gd rfl rfl Y4 rfl func205 V8 V6 V9 .i32 V7 rfl rfl p.1.cellSt (p.1.thaw 0),p.pG _,dG.set _ _ (.inl rfl),bf Y1 Y1 Y1 Y1 (by simpa[cp,mk]using sC (Mu:=ph.Mu) (Wg:=ph.Wg) 0 (muA ph.Mu) (.inl rfl)),Y1,?_⟩⟩;refine⟨80,?_⟩;walk_nrm;simp only[show IntKind.i32.wrap (9+-1)=8 from by decide];replace hF:=hF.Mx (dG.set (muA ph.Mu) (.int .i32 8) (.inl rfl)) (p.pG 8);repeat w_go KX.rely
  u_call func206 Up f206 KX.rely hF;repeat w_go KX.rely
  simp only[show bits BinOp.or IntKind.i32 0 2=2 from by decide];s_at KX.rely;refine⟨by simp[vF],λ_=>⟨rfl,rfl,λs p _=>⟨λh=>?_,λ_=>?_⟩⟩⟩;.exfalso;revert h;simp only[mv];(repeat' split)<;>simp
  obtain⟨mu,q,r,ws⟩:=s;by_cases o:mu=8
  .subst o;refine⟨(at_ .us,⟨2,q,r,ws⟩),by simp[mv],λ_=>⟨_,_,_,ir rfl rfl Y4 rfl func203 kT kR kU .i32 kS rfl rfl rfl p.1.cellSt (p.1.thaw 0),p.pG 2,dG.set _ _ (.inl rfl),bf Y1 Y1 Y1 Y1 (by simpa[cp,mk]using sC (Mu:=ph.Mu) (Wg:=ph.Wg) 0 (muA ph.Mu) (.inl rfl)),Y1,?_⟩⟩;replace hF:=hF.Mx (dG.set (muA ph.Mu) (.int .i32 2) (.inl rfl)) (p.pG 2);refine⟨40,?_⟩;walk_nrm;repeat w_go KX.rely
   s_at KX.rely;refine⟨by simp[vF],λ_=>⟨rfl,rfl,λs p f=>⟨by simp[mv],λ_=>?_⟩⟩⟩;obtain⟨mu,q,r,ws⟩:=s;have e:IntKind.u32.wrap (q+1)=q+1:=by rcases(zjZ f).2 with h|h<;>simp only at h<;>subst h<;>decide
   refine⟨(at_ .ue,⟨mu,q+1,r,ws⟩),by simp[mv],λ_=>⟨_,_,_,stepG_semrelease rfl rfl Y4 rfl func234 zg0 Wa zg1 zgZ (by simp[a8,msA]) p.1.cellSm (p.1.thaw 1),by rw[e];exact p.U5 (q+1),dG.set _ _ (.inl rfl),bf Y1 Y1 Y1 Y1 (by simpa[cp,mk]using book_sem (Mu:=ph.Mu) (Wg:=ph.Wg) 0 (msA ph.Mu) (.inl rfl)),(λ_=>mayWake_entry rfl rfl func234 Wa),?_⟩⟩;replace hF:=hF.Mx (dG.set (msA ph.Mu) (.int .u32 (IntKind.u32.wrap (q+1))) (.inl rfl)) (by rw[e];exact p.U5 (q+1));refine⟨40,?_⟩;walk_nrm;repeat w_go KX.rely
   u_leave0 func206 KX.rely hF;repeat w_go KX.rely
   s_at KX.rely;refine⟨by simp[vF],λ_=>⟨rfl,rfl,λs p _=>⟨by simp[mv],λ_=>⟨(at_ (if gj then .kd else .wr),s),by simp[mv],λ_=>⟨_,_,_,e7 .enable Y1 rfl rfl Y4 rfl ck.f_enable (jA az) (jy az) (jB az) (jz az),p,dG.refl _,bf Y1 Y1 Y1 Y1 (by cases gj<;>simpa[cp,mk]using book_en (Mu:=ph.Mu) (Wg:=ph.Wg) 0),Y1,?_⟩⟩⟩⟩⟩;obtain⟨i,T⟩:=y k;refine⟨i+12,?_⟩;walk_nrm;repeat w_go KX.rely
   u_leave0 func167 KX.rely hF;repeat w_go KX.rely
   (u_in KX.rely hF;rw[stepG_leave_deferred rfl rfl func130 (results_none rfl _ _ _) (events_results_none rfl _ _) d];simp only[qx];refine⟨by u_nil,?_⟩);exact jg (T _ hF) _
  .exact⟨(at_ .bad,⟨mu,q,r,ws⟩),by simp[mv,o],λh=>absurd rfl h⟩
 .exact⟨(at_ .bad,⟨mu,q,r,ws⟩),by simp[mv,l,n],λh=>absurd rfl h⟩
end
end Rn
namespace Rn
open Go
def nH(b l i:Nat)(wr:Bool)(e:bB):Prop:=∃j,l<=j/\j<i/\e=⟨.cell ⟨b,j,U⟩,wr,H⟩
def nF:Y->Bool|.agg _|.tuple _=>H|_=>E
section
variable{P:al}
def eC(b o j:Nat):(⟨b,o,U⟩:bX).add j=⟨b,o+j,U⟩:=by unfold Addr.add;split<;>simp_all
variable{w:V}{b:Nat}{e:ah}
def GC{c:Array Y}{f:Nat×Nat}(h:w.heap[b]?=C (.cells c e f))(j:Nat):w.cell? ⟨b,j,U⟩=c[j]?:=by simp[World.cell?,h]
def Z6{w:V}{b o:Nat}{q:Array Y}{e:ah}{f:Nat×Nat}(h:w.heap[b]?=C (.cells q e f)):∀(n i:Nat)(k:Array Y)(p:Array bB),o+i+n<=q.size->∃m,(iq ⟨b,o,U⟩ i n k).runT P w p=(.ok (k++q.extract (o+i) (o+i+n)) w,p++m)/\∀r∈m,nH b (o+i) (o+i+n) H r
 |0,i,k,p,_=>⟨#[],by simp[iq,b8];omega,Y1⟩|n+1,i,k,p,u=>by
  have l:o+i<q.size:=Y0;have⟨m,c,d⟩:=Z6 (o:=o) h n (i+1) (k.push q[o+i]) (p.push ⟨.cell ⟨b,o+i,U⟩,H,H⟩) Y0;refine⟨#[⟨.cell ⟨b,o+i,U⟩,H,H⟩]++m,?_,?_⟩
  .have g:(iq ⟨b,o,U⟩ i (n+1) k).runT P w p=(iq ⟨b,o,U⟩ (i+1) n (k.push q[o+i])).runT P w (p.push ⟨.cell ⟨b,o+i,U⟩,H,H⟩):=by show Sem.runT P (.load .plain ((⟨b,o,U⟩:bX).add i) λv=>iq ⟨b,o,U⟩ (i+1) n (k.push v)) w p=_;rw[eC];simp only[Sem.runT,GC h,cB l];rfl
   rw[g,c];apply Prod.ext
   .simp[Result.ok.injEq,and_true];apply iF;simp only[fE,Array.toList_push,df,fv];congr 1;rw[show o+(i+1)=o+i+1 by omega];rw[cf,cf];rw[show o+i+1+n-(o+i+1)=n by omega,show o+i+(n+1)-(o+i)=n+1 by omega];rw[List.drop_eq_getElem_cons (i:=o+i) Y0,List.take_succ_cons];simp
   .simp
  .intro r a;rcases qc.1 a with s|s;.exact⟨o+i,Y0,Y0,Y7⟩
   .have⟨j,x,y,t⟩:=d r s;exact⟨j,Y0,Y0,t⟩
def cn{α β:Type}(x:Sem α)(f:α->Sem β)(w:V)(b:Array bB):(x>>=f).runT P w b=match x.runT P w b with|(.ok a c,e)=>(f a).runT P c e|(.halt h c,e)=>(.halt h c,e):=Sem.runT_bind' P x f w b
variable{t:ah}
def tw{d:ej}(h:P.underlying t=C d)(w:V)(e:Array bB):(underlying t).runT P w e=(.ok d w,e):=by show Sem.runT P (match P.underlying t with|some d=>Sem.pure d|none=>stuck "no such type") w e=_;rw[h];rfl
def Pr{d:ej}(h:P.underlying t=C d)(a:d.isRow=E)(w:V)(e:Array bB):(isAgg t).runT P w e=(.ok E w,e):=by unfold isAgg;rw[cn,tw h];cases d<;>first|(cases a;done)|rfl
def Oh{i:iC}(h:P.info? t=C i)(w:V)(e:Array bB):(typeInfo t).runT P w e=(.ok i w,e):=by show Sem.runT P (match P.info? t with|some i=>Sem.pure i|none=>stuck "no such type") w e=_;rw[h];rfl
variable{n:Nat}
def sE(h:(P.info? t).map (·.size)=C n)(w:V)(e:Array bB):(sizeOf t).runT P w e=(.ok n w,e):=by obtain⟨i,a,rfl⟩:=ak.1 h;unfold sizeOf;rw[cn,Oh a];rfl
def zi1{o:Nat}{d:ej}{i:Array Y}{f:Nat×Nat}(h:w.heap[b]?=C (.cells i e f))(u:P.underlying t=C d)(j:d.isRow=E)(s:(P.info? t).map (·.size)=C n)(k:o+n<=i.size):∃g,(dz t (.pointer (C ⟨b,o,U⟩))).runT P w #[]=(.ok (.agg (i.extract o (o+n))) w,g)/\∀ev∈g,nH b o (o+n) H ev:=by have⟨g,a,c⟩:=Z6 (P:=P) (o:=o) h n 0 #[] #[] Y0;refine⟨g,?_,Y0⟩;show(dx t ⟨b,o,U⟩).runT P w #[]=_;unfold dx;rw[cn,Pr u j];simp only[if_true];rw[cn,sE s];simp only;rw[cn];unfold loadCells;rw[a];simp[b8]
def PT{b o:Nat}{e:ah}:∀(B:List Y)(i:Nat)(w:V)(D:Array Y)(I:Array bB),w.heap[b]?=C (.cells D e)->o+i+B.length<=D.size->(∀v∈B,nF v=E)->∃F G,(l5 ⟨b,o,U⟩ B i).runT P w I=(.ok () F,I++G)/\(∀J∈G,nH b (o+i) (o+i+B.length) E J)/\F.heap[b]?=C (.cells (D.extract 0 (o+i)++B.toArray++D.extract (o+i+B.length) D.size) e)/\(∀k,k≠b->F.heap[k]?=w.heap[k]?)/\F.heap.size=w.heap.size/\F.os=w.os/\F.tape=w.tape/\F.output=w.output/\F.drawn=w.drawn
 |[],i,w,D,I,h,M,_=>⟨w,#[],by simp[l5,b8],Y1,by simp_all,λ_ _=>rfl,rfl,rfl,rfl,rfl,rfl⟩|v::B,i,w,D,I,h,M,K=>by
  have l:o+i<D.size:=Y8;have s:(w.setCell ⟨b,o+i,U⟩ v).heap[b]?=C (.cells (D.set (o+i) v) e):=by simp[World.setCell,h,bh,Array.setIfInBounds,l]
  have⟨F,G,m,n,p,q,r,t,x,y,z⟩:=PT (o:=o) B (i+1) (w.setCell ⟨b,o+i,U⟩ v) (D.set (o+i) v) (I.push ⟨.cell ⟨b,o+i,U⟩,E,H⟩) s Y8 (λu N=>K u (by simp[N]));refine⟨F,#[⟨.cell ⟨b,o+i,U⟩,E,H⟩]++G,?_,?_,?_,λk g=>?_,?_,t,x,y,z⟩
  .have a:(l5 ⟨b,o,U⟩ (v::B) i).runT P w I=(l5 ⟨b,o,U⟩ B (i+1)).runT P (w.setCell ⟨b,o+i,U⟩ v) (I.push ⟨.cell ⟨b,o+i,U⟩,E,H⟩):=by
    show Sem.runT P (.store .plain ((⟨b,o,U⟩:bX).add i) v (l5 ⟨b,o,U⟩ B (i+1))) w I=_;rw[eC];have f:w.frozen? ⟨b,o+i,U⟩=H:=by simp[World.frozen?,h]
    have c:=K v Y1;cases v<;>first|(cases c;done)|(simp[Sem.runT,GC h,cB l,f,bt,if_false];rfl)
   rw[a,m];simp
  .intro J d;rcases qc.1 d with L|L;.exact⟨o+i,Y0,Y7,Y7⟩
   .have⟨j,Q,R,O⟩:=n J L;exact⟨j,Y0,by simp;omega,O⟩
  .rw[p];congr 2;apply iF;have a:o+(i+1)=(o+i)+1:=Y0;have A:o+i+1+B.length=o+i+(B.length+1):=Y0;simp[a,fE,df,Array.toList_set,cf,Array.size_set,aW,oW,jY,A];rw[C2 Y0];rw[cW,pq Y0,C3 Y0];simp
  .rw[q k g];simp[World.setCell,bh,cA g]
  .simp_all
def zr9{o:Nat}{g d:Array Y}(h:w.heap[b]?=C (.cells g e))(s:(P.info? t).map (·.size)=C n)(i:d.size=n)(q:o+n<=g.size)(a:d.all nF=E):∃c f,(jG t (.pointer (C ⟨b,o,U⟩)) (.agg d)).runT P w #[]=(.ok () c,f)/\(∀j∈f,nH b o (o+n) E j)/\c.heap[b]?=C (.cells (g.extract 0 o++d++g.extract (o+n) g.size) e)/\(∀k,k≠b->c.heap[k]?=w.heap[k]?)/\c.heap.size=w.heap.size/\c.os=w.os/\c.tape=w.tape/\c.output=w.output/\c.drawn=w.drawn:=by
 rw[aQ]at a;have⟨c,f,l,r,u,m⟩:=PT (P:=P) (o:=o) d.toList 0 w g #[] h Y7 (λv x=>a v Y7);have e:(nh t ⟨b,o,U⟩ (.agg d)).runT P w #[]=(l5 ⟨b,o,U⟩ d.toList 0).runT P w #[]:=by unfold nh;rw[cn,sE s];have p:(nU d).cells.size=n:=i;simp only[p,ne_eq,not_true_eq_false,if_false];rfl
 refine⟨c,f,?_,Y7,Y7,m⟩;show(nh t ⟨b,o,U⟩ (.agg d)).runT P w #[]=_;rw[e,l];simp
end
open Go.Conc
section
variable{P:al}{main:Bool}{b:ag}{a:Act}{kk:List mZ}{cs:List ag}{w w':V}{ops:Array Oper}{i:Nat}{rest:List Nat}{o:Oper}{es:Array bB}
variable{v:Y}
def tu(c:ops[i]?=C o)(d:ar o (yielded ops a.tmps)=E)(k:b.kind≠.early)(h:(aG a.eval o).runT P w #[]=(.ok (.value v) w',es)):bg P main (G (b.at a (.inRegion ops (i::rest)::kk)) cs) w=.go (G (b.at (a.put o.dst v) (.inRegion ops rest::kk)) cs) w' (seen P b.fn es):=by simp[Sem.runT_eq,aX]at h;rw[stepG_value c d k h.1];unfold listed;rw[h.2]
def VW(c:ops[i]?=C o)(d:ar o (yielded ops a.tmps)=E)(k:b.kind≠.early)(h:(aG a.eval o).runT P w #[]=(.ok .skip w',es)):bg P main (G (b.at a (.inRegion ops (i::rest)::kk)) cs) w=.go (G (b.at (a.put o.dst undef) (.inRegion ops rest::kk)) cs) w' (seen P b.fn es):=by simp[Sem.runT_eq,aX]at h;rw[stepG_none c d k h.1];unfold listed;rw[h.2]
variable{t e:ah}{x:aU}{r:Nat}{c:Array Y}
def VV{p n:Nat}{d:ej}{f:Nat×Nat}(s:ops[i]?=C o)(u:ar o (yielded ops a.tmps)=E)(k:b.kind≠.early)(q:o.op=.load t x)(v:a.eval x=.pointer (C ⟨r,p,U⟩))(h:w.heap[r]?=C (.cells c e f))(y:P.underlying t=C d)(z:d.isRow=E)(A:(P.info? t).map (·.size)=C n)(B:p+n<=c.size):∃es,bg P main (G (b.at a (.inRegion ops (i::rest)::kk)) cs) w=.go (G (b.at (a.put o.dst (.agg (c.extract p (p+n)))) (.inRegion ops rest::kk)) cs) w es/\∀ev∈es,nH r p (p+n) H ev:=by have⟨g,l,m⟩:=zi1 h y z A B;refine⟨_,tu s u k ?_,λev j=>m ev (mem_seen j)⟩;unfold aG;simp only[q,v];rw[cn,l];rfl
def zdf{g:Nat}{d:ej}(l:ops[i]?=C o)(m:ar o (yielded ops a.tmps)=E)(k:b.kind≠.early)(j:o.op=.load t x)(n:a.eval x=.pointer (C ⟨r,g,U⟩))(h:w.cell? ⟨r,g,U⟩=C v)(u:P.underlying t=C d)(p:d.isRow=H):∃es,bg P main (G (b.at a (.inRegion ops (i::rest)::kk)) cs) w=.go (G (b.at (a.put o.dst v) (.inRegion ops rest::kk)) cs) w es/\∀ev∈es,nH r g (g+1) H ev:=by
 refine⟨_,tu l m k (es:=#[⟨.cell ⟨r,g,U⟩,H,H⟩]) ?_,λev e=>⟨g,Y0,Y0,by simpa using mem_seen e⟩⟩;unfold aG;simp only[j,n];have c:(isAgg t).runT P w #[]=(.ok H w,#[]):=by unfold isAgg;rw[cn,tw u];cases d<;>first|(cases p;done)|rfl
 have f:(dz t (.pointer (C ⟨r,g,U⟩))).runT P w #[]=(.ok v w,#[⟨.cell ⟨r,g,U⟩,H,H⟩]):=by show(dx t ⟨r,g,U⟩).runT P w #[]=_;unfold dx;rw[cn,c];simp only[bt,if_false];show Sem.runT P (.load .plain ⟨r,g,U⟩ .pure) w #[]=_;simp only[Sem.runT,h];rfl
 rw[cn,f];rfl
def EZ{y:aU}{m n:Nat}{v:Array Y}(s:ops[i]?=C o)(u:ar o (yielded ops a.tmps)=E)(g:b.kind≠.early)(p:o.op=.store t x y)(z:a.eval x=.pointer (C ⟨r,m,U⟩))(j:a.eval y=.agg v)(h:w.heap[r]?=C (.cells c e))(A:(P.info? t).map (·.size)=C n)(B:v.size=n)(D:m+n<=c.size)(l:v.all nF=E):∃w' es,bg P main (G (b.at a (.inRegion ops (i::rest)::kk)) cs) w=.go (G (b.at (a.put o.dst undef) (.inRegion ops rest::kk)) cs) w' es/\(∀q∈es,nH r m (m+n) E q)/\w'.heap[r]?=C (.cells (c.extract 0 m++v++c.extract (m+n) c.size) e)/\(∀k,k≠r->w'.heap[k]?=w.heap[k]?)/\w'.heap.size=w.heap.size/\w'.os=w.os/\w'.tape=w.tape/\w'.output=w.output/\w'.drawn=w.drawn:=by have⟨w',d,F,I,J⟩:=zr9 h A B D l;refine⟨w',_,VW s u g ?_,λq f=>I q (mem_seen f),J⟩;unfold aG;simp only[p,z,j];rw[cn,F];rfl
def za8{y:aU}{p:Nat}(A:ops[i]?=C o)(B:ar o (yielded ops a.tmps)=E)(l:b.kind≠.early)(q:o.op=.store t x y)(D:a.eval x=.pointer (C ⟨r,p,U⟩))(m:a.eval y=v)(h:w.heap[r]?=C (.cells c e))(F:(P.info? t).map (·.size)=C 1)(L:p<c.size)(j:nF v=E):∃w' es,bg P main (G (b.at a (.inRegion ops (i::rest)::kk)) cs) w=.go (G (b.at (a.put o.dst undef) (.inRegion ops rest::kk)) cs) w' es/\(∀s∈es,nH r p (p+1) E s)/\w'.heap[r]?=C (.cells (c.extract 0 p++#[v]++c.extract (p+1) c.size) e)/\(∀k,k≠r->w'.heap[k]?=w.heap[k]?)/\w'.heap.size=w.heap.size/\w'.os=w.os/\w'.tape=w.tape/\w'.output=w.output/\w'.drawn=w.drawn:=by
 have⟨w',d,I,J,M,K⟩:=PT (P:=P) (o:=p) [v] 0 w c #[] h (by simp;omega) (λu N=>Y7);have n:(jG t (.pointer (C ⟨r,p,U⟩)) v).runT P w #[]=(.ok () w',d):=by
  show(nh t ⟨r,p,U⟩ v).runT P w #[]=_;have z:v.cells=#[v]:=by cases v<;>first|(cases j;done)|rfl
  unfold nh;rw[cn,sE F];have f:v.cells.size=1:=by rw[z];rfl
  simp only[f,ne_eq,not_true_eq_false,if_false];rw[z];rw[I];simp
 refine⟨w',_,VW A B l (es:=d) ?_,λs g=>?_,Y0,K⟩
 .unfold aG;simp only[q,D,m];rw[cn,n];rfl
 .simpa using J s (mem_seen g)
def EY{d:iC}{z:Y}(g:ops[i]?=C o)(j:ar o (yielded ops a.tmps)=E)(k:b.kind≠.early)(f:o.op=.alloc t)(l:P.info? t=C d)(c:d.zero=C z):bg P main (G (b.at a (.inRegion ops (i::rest)::kk)) cs) w=.go (G (b.at (a.put o.dst (.pointer (C ⟨w.heap.size,0,U⟩))) (.inRegion ops rest::kk)) cs) {w with heap:=w.heap.push (.cells z.cells t)} #[]:=by
 have h:(aG a.eval o).runT P w #[]=(.ok (.value (.pointer (C ⟨w.heap.size,0,U⟩))) {w with heap:=w.heap.push (.cells z.cells t)},#[]):=by
  unfold aG;simp only[f];have e:(c9 t).runT P w #[]=(.ok z w,#[]):=by unfold c9;rw[cn,Oh l];simp only[c];rfl
  rw[cn];unfold Instr.alloc;rw[cn,e];rfl
 rw[tu g j k h,sV]
def zlg(d:ops[i]?=C o)(e:ar o (yielded ops a.tmps)=E)(k:b.kind≠.early)(c:o.op=.box t x)(f:a.eval x=v):bg P main (G (b.at a (.inRegion ops (i::rest)::kk)) cs) w=.go (G (b.at (a.put o.dst (.pointer (C ⟨w.heap.size,0,U⟩))) (.inRegion ops rest::kk)) cs) {w with heap:=w.heap.push (.cells v.cells t)} #[]:=by
 have h:(aG a.eval o).runT P w #[]=(.ok (.value (.pointer (C ⟨w.heap.size,0,U⟩))) {w with heap:=w.heap.push (.cells v.cells t)},#[]):=by unfold aG;simp only[c,f];rfl
 rw[tu d e k h,sV]
def pV{f:FuncId}{e:Func}{args:Array aU}{g:Array ah}(j:ops[i]?=C o)(l:ar o (yielded ops a.tmps)=E)(k:b.kind≠.early)(d:o.op=.call {callee:=.value (.func f),args,argTypes:=g})(h:P.funcs[f]?=C e)(n:(e.name== "runtime.NumGoroutine")=H)(c:e.body.isNone=H):bg P main (G (b.at a (.inRegion ops (i::rest)::kk)) cs) w=.go (G (aF P f (args.map a.eval) .normal) (b.at a (.inRegion ops (i::rest)::kk)::cs)) w #[]:=by rw[stepG_enter j l k (run_call_body d h n c)];unfold listed;rw[events_call_body d h n c,sV]
end
end Rn
namespace Rn
open Go Go.Conc Go.ConcN Go.ConcM Go.RowKit Go.Conc.Lib Go.ConcR.Gen
open Go.ConcR(KK WgAt stA smA rd wr mk DC0)
section
variable{P:al}{ph:Ph}{s:Nat}{main:Bool}{WS RS:Nat->Prop}{g g':av}{w w':V}{es:Array bB}
def Ox(b:Nat):WS b↔WS b\/(w.heap.size<=b/\b<w.heap.size/\¬ph.sh b):=Y8
variable{r l i:Nat}
def Vr{WS RS:Nat->Prop}{w:Bool}(h:WS r\/(RS r/\w=H)){e:bB}(b:nH r l i w e):s0 ph s main WS RS e:=by
 obtain⟨j,_,_,rfl⟩:=b;refine⟨λx c=>?_,λa d=>by cases w<;>cases d⟩;have:x=⟨.cell ⟨r,j,U⟩,w,.plain⟩:=by cases w<;>simpa[aI,cd,eq_comm]using c
 subst this;exact .inl ⟨r,rfl,h⟩
def ko{w:Bool}(h:∀b∈es,nH r l i w b):WH es:=by intro e a;obtain⟨j,_,_,rfl⟩:=h e a;simp_all
def G0(d:WS r\/RS r)(e:bg P main g w=.go g' w es)(b:∀c∈es,nH r l i H c):Sil P ph s main WS RS g w WS g' w es []:=⟨.inl ⟨rfl,e⟩,ao _,λ_ _ _ _=>rfl,λf h=>⟨f,h,λ_ _ _=>rfl⟩,.refl _,rfl,rfl,λc a=>Vr (d.imp id λz=>⟨z,rfl⟩) (b c a),Y1,Ox⟩
def znY{o:Obj}(l:Lv ph w)(e:bg P main g w=.go g' {w with heap:=w.heap.push o} #[]):Sil P ph s main WS RS g w (λb=>WS b\/b=w.heap.size) g' {w with heap:=w.heap.push o} #[] []:=by
 have blk:∀b,b<w.heap.size->(w.heap.push o)[b]?=w.heap[b]?:=Y8;refine⟨.inl ⟨rfl,e⟩,Y1,λb a _ _=>blk b a,λc h=>⟨c,⟨(blk _ (l.lt (.inr (.inr rfl)))).trans h.1,h.2⟩,λ_ _ _=>rfl⟩,.refl _,rfl,rfl,Y1,Y1,λb=>?_⟩;simp[y6];constructor
 .rintro(h|rfl);.exact .inl h
  .exact .inr ⟨ao _,Y0,λa=>by have:=l.lt a;omega⟩
 .grind
def zi3{o:Obj}(l:Lv ph w):Lv ph {w with heap:=w.heap.push o}:=l.same λb h=>by rw[bx,if_neg (by have:=l.lt h;omega)]
def JA{m:Nat}(j:WS r)(n:¬ph.sh r)(e:bg P main g w=.go g' w' es)(f:∀i∈es,nH r l m E i)(c:∀k,k≠r->w'.heap[k]?=w.heap[k]?)(d:w'.heap.size=w.heap.size)(o:w'.os=w.os)(t:w'.tape=w.tape)(u:w'.output=w.output):Sil P ph s main WS RS g w WS g' w' es []:=⟨.inl ⟨rfl,e⟩,cI d.symm,λb _ p _=>c b λz=>p (z▸j),λq h=>⟨q,⟨(c _ λz=>n (.inr (.inr z.symm))).trans h.1,h.2⟩,λ_ _ _=>rfl⟩,by rw[o];exact .refl _,t,u,λi a=>Vr (.inl j) (f i a),Y1,λb=>Y8⟩
def Jn(ph:Ph)(s:Nat)(c:Array Y):(zF ph s c).toList=(c.toList.drop (s*ph.d)).take ph.d:=by unfold zF;rw[df,cf];congr 1;omega
def zcE{cs c:Array Y}{d s b:Nat}(ph:Ph)(e:ph.d=d)(f:cs.size=2*d)(g:c.size=d)(i:s<2)(h:b<2)(n:b≠s):zF ph b (cs.extract 0 (s*d)++c++cs.extract (s*d+d) cs.size)=zF ph b cs:=by
 subst e;apply iF;rw[Jn,Jn];have l:cs.toList.length=2*ph.d:=Y0;have v:c.toList.length=ph.d:=Y0;have a:(s=0/\b=1)\/(s=1/\b=0):=Y0;simp[fE,df,cf];rcases a with⟨rfl,rfl⟩|⟨rfl,rfl⟩;.grind
 .grind
def zj8{c vs:Array Y}{d s:Nat}(ph:Ph)(h:ph.d=d)(b:c.size=2*d)(e:vs.size=d)(f:s<2):zF ph s (c.extract 0 (s*d)++vs++c.extract (s*d+d) c.size)=vs:=by subst h;apply iF;rw[Jn];have l:c.toList.length=2*ph.d:=Y0;have v:vs.toList.length=ph.d:=Y0;have a:s*ph.d<=2*ph.d:=bk _ Y0;simp[fE,df,cf,oW,jY];rw[List.drop_left' Y7,zd v]
def zr1{n:Nat}{cs v:Array Y}(A:s<2)(p:ph.d=n)(u:zx ph w cs)(y:v.size=n)(e:bg P main g w=.go g' w' es)(m:∀q∈es,nH ph.Bo (s*n) (s*n+n) E q)(r:w'.heap[ph.Bo]?=C (.cells (cs.extract 0 (s*n)++v++cs.extract (s*n+n) cs.size) ph.tB))(o:∀k,k≠ph.Bo->w'.heap[k]?=w.heap[k]?)(z:w'.heap.size=w.heap.size)(B:w'.os=w.os)(D:w'.tape=w.tape)(F:w'.output=w.output):Sil P ph s main WS RS g w WS g' w' es []:=by
 have c:=p▸u.2;refine⟨.inl ⟨rfl,e⟩,cI z.symm,λb _ _ G=>o b G,λt h=>?_,by rw[B];exact .refl _,D,F,λq i=>?_,Y1,λb=>Y8⟩
 .have:t=cs:=by have:=h.1.symm.trans u.1;simpa using this
  subst this;refine⟨_,⟨r,?_⟩,λK l f=>zcE ph p c y A l f⟩;have f:s=0\/s=1:=Y0;simp[Array.size_append,Array.size_extract,y,p,c];rcases f with rfl|rfl<;>simp<;>omega
 .obtain⟨j,l,f,rfl⟩:=m q i;refine⟨λx I=>?_,λa J=>by cases J⟩;have:x=⟨.cell ⟨ph.Bo,j,U⟩,E,.plain⟩:=by simpa[aI,cd,eq_comm]using I
  subst this;exact .inr (.inl ⟨_,rfl,rfl,Y7,Y7⟩)
end
section
variable{ph:Ph}{s:Nat}{gj:Bool}{F:(Nat->Prop)->(Nat->Prop)->V->Prop}{WS RS:Nat->Prop}{w0 w:V}
variable{uS:ag}{mP:Act}{gL:Array Oper}{CW:Nat}{lC:List Nat}{FU:List mZ}{cs:List ag}{o:Oper}
def XQ{args:Array aU}{d:Array ah}(f:gL[CW]?=C o)(l:ar o (yielded gL mP.tmps)=E)(a:uS.kind≠.early)(e:o.op=.call {callee:=.value (.func 129),args:=args,argTypes:=d})(x:args.map mP.eval=#[.pointer (C ⟨ph.Mu,0,U⟩)])(hK:∀k w,KX ph s (λb=>WS b\/RS b) w0 w->BH prog ph s gj F ⟨at_ .ur,k,WS,RS,G (uS.at (mP.put o.dst (.tuple #[])) (.inRegion gL lC::FU)) cs,w⟩)(k:Nat)(hF:KX ph s (λb=>WS b\/RS b) w0 w):BH prog ph s gj F ⟨at_ .ld,k,WS,RS,G (uS.at mP (.inRegion gL (CW::lC)::FU)) cs,w⟩:=by
 have p:mP.put o.dst (.tuple #[])=mP.put ((gL[CW]?).bind (·.dst)) (.tuple #[]):=by rw[f];rfl
 refine zmG (Fi:=λ_ g w=>g=G (uS.at (mP.put o.dst (.tuple #[])) (.inRegion gL lC::FU)) cs/\KX ph s (λb=>WS b\/RS b) w0 w) (λk g w h=>?_) k (at_ .ld) 41 _ w (.inl rfl) ?_
 .obtain⟨rfl,_⟩:=h w (fF.refl _ _);simp_all
 .refine nS rfl (λi c=>?_);have hF:=hF.rely c;rw[pV f l a e func129 znq rfl];simp[qx];refine⟨by u_nil,?_⟩;rw[x,enter_at _ func129 rfl];refine zrJ (λj=>⟨0,λw hF=>λi r=>?_⟩) k i hF;cases j with|zero=>trivial|succ j=>exact⟨λ_=>⟨by rw[p],hF.rely r⟩,λh=>by simp[vF]at h⟩
def Td{t:List mZ}{d:List dI}(i:mP.defers=dcall 130 #[.pointer (C ⟨ph.Mu,0,U⟩)]::d)(hK:∀k w,KX ph s (λb=>WS b\/RS b) w0 w->BH prog ph s gj F ⟨at_ .wr,k,WS,RS,G {uS.at ⟨mP.tmps,d⟩ t with mode:=.returning} cs,w⟩)(k:Nat)(hF:KX ph s (λb=>WS b\/RS b) w0 w):BH prog ph s gj F ⟨at_ .ur,k,WS,RS,G {uS.at mP t with mode:=.returning} cs,w⟩:=by
 have e:OC (at_ .ur)=at_ .ur:=rfl;rw[<-e];refine zfE (Fi:=λ_ g w=>g=G {uS.at ⟨mP.tmps,d⟩ t with mode:=.returning} cs/\KX ph s (λb=>WS b\/RS b) w0 w) (λk g w h=>?_) k (at_ .ur) 41 _ w (.inl rfl) ?_
 .obtain⟨rfl,_⟩:=h w (fF.refl _ _);simp_all
 .refine nS rfl (λc a=>?_);have hF:=hF.rely a;rw[stepG_unwind_enter i func130 zgl rfl];simp[qx];refine⟨by u_nil,?_⟩;refine zll rfl (λf=>⟨0,λw hF=>λc r=>?_⟩) k c hF;cases f with|zero=>trivial|succ f=>exact⟨λ_=>⟨rfl,hF.rely r⟩,λh=>by cases gj<;>simp[vF]at h⟩
def zaE(t:ph.tW=164){d:List mZ}{f:List dI}{q:Nat}(g:mP.defers=dcall 127 #[.pointer (C ⟨ph.Wg,0,U⟩)]::f)(Q:lR prog q 0 (G {uS.at ⟨mP.tmps,f⟩ d with mode:=.returning} cs))(h:∀w e,fF ph s (λb=>WS b\/RS b) w e->F WS RS w->F WS RS e)(a:F WS RS w)(k:Nat)(hF:KX ph s (λb=>WS b\/RS b) w0 w):BH prog ph s gj F ⟨at_ .wr,k,WS,RS,G {uS.at mP d with mode:=.returning} cs,w⟩:=by apply zmF (m:=61) h a;refine nS rfl (λe c=>?_);rw[stepG_unwind_enter g func127 znr rfl];simp[qx];exact⟨by u_nil,zrp t rfl Q e (hF.rely c)⟩
end
section
variable{N P:al}{f:FuncId}{xs ys:Array Y}{w0 W:V}{R0:BR}
def zsg{R:BR}{Q:Nat->Prop}{v v' u:Y}(h:VR (λa b l=>a=b/\l=0/\Q a) v u)(k:VR R v v'):VR (λa b l=>R a b l/\Q a) v v':=by
 have D:∀{a a' b:bX},AR (λa b l=>a=b/\l=0/\Q a) a b->AR R a a'->AR (λa b l=>R a b l/\Q a) a a':=by rintro a a' b⟨⟨l,⟨_,_,w⟩,_⟩,_⟩⟨⟨m,r,e⟩,z⟩;exact⟨⟨m,⟨r,w⟩,e⟩,z⟩
 have g:∀{a a' b:Option bX},OA (λa b l=>a=b/\l=0/\Q a) a b->OA R a a'->OA (λa b l=>R a b l/\Q a) a a' |none,U,_,_,_=>trivial|some _,C _,C _,x,y=>D x y|none,C _,_,_,y=>y.elim|some _,U,_,_,y=>y.elim|some _,C _,U,x,_=>x.elim;have L:∀{a a' b:Option Nat},ON (λa b l=>a=b/\l=0/\Q a) a b->ON R a a'->ON (λa b l=>R a b l/\Q a) a a' |none,U,_,_,_=>trivial|some _,C _,C _,⟨_,_,_,w⟩,⟨m,r⟩=>⟨m,r,w⟩|none,C _,_,_,y=>y.elim|some _,U,_,_,y=>y.elim|some _,C _,U,x,_=>x.elim;induction k generalizing u with
 |bool b=>exact .bool b|int k n=>exact .int k n|string s=>exact .string s|pointer I=>cases h with|pointer p=>exact .pointer (g p I)
 |slice l c I=>cases h with|slice _ _ p=>exact .slice l c (g p I)
 |map I=>cases h with|map p=>exact .map (L p I)
 |chan I=>cases h with|chan p=>exact .chan (L p I)
 |@func f x M y F J _ G _ i1 i2=>cases h with|@func _ _ z _ z2 o q A B=>
  refine .func f J (λi v v' K d=>?_) G (λi v v' K d=>?_);.grind
  .grind|nilFunc=>exact .nilFunc|iface t _ i=>cases h with|iface _ p=>exact .iface t (i p)
 |nilIface=>exact .nilIface|@agg x M J _ i=>cases h with|@agg _ z o q=>
  refine .agg J λj v v' K d=>?_
  grind|@tuple x M J _ i=>cases h with|@tuple _ z o q=>refine .tuple J λj v v' K d=>?_;grind
def zq8{R:BR}{Q:Nat->Prop}(h:AV (λa b l=>a=b/\l=0/\Q a) xs xs)(k:AV R xs ys):AV (λa b l=>R a b l/\Q a) xs ys:=⟨k.size,λi v e d c=>zsg (h.at_ i v v d d) (k.at_ i v e d c)⟩
def zrC{w2:V}(g:zfn w0 w2):HR (λa b l=>a=b/\l=0/\rO w0 a) (UK w0) w2:=by refine⟨λa k b n l m h d=>⟨λe=>h.1▸d.1▸e,λe=>.inl Y0⟩,λa b l r=>?_,Jl w0⟩;obtain⟨rfl,rfl,c,e,f,h⟩:=r;refine⟨_,_,tp h,g.1 a _ h,.cells (.inl ⟨rfl,rfl⟩) (PF c) (λi v o _ a b=>?_) (.inr λi j=>⟨a7 _,j⟩)⟩;rw[(Ck a).1]at b;cases b;exact Gj (Ck a).2
def ziY{w2:V}(b:zfn w0 w2){a:Nat}(h:Fz w0 a):Fz w2 a:=by have⟨c,e,f,d,g⟩:=h;exact⟨c,e,f,b.1 a _ d,g⟩
def GlR(R0:BR)(w0:V):Prop:=∀g,Nat.blt g nGl=E->(∃l,R0 g g l/\l<=1)/\rO w0 g
def zj3(g:PG N P)(gp:GP N)(n:∃A,N.funcs[f]?=C A/\A.body.isSome=E)(R:HR R0 w0 W)(B:AV R0 xs ys)(i:AV (λa b l=>a=b/\l=0/\rO w0 a) xs xs)(d:GlR R0 w0)(WS:Nat->Prop):Gh N (aF N f xs .normal) w0 R0 WS (aF N f xs .normal) [] (UK w0) (aF P f ys .normal) [] W (λa b l=>R0 a b l/\rO w0 a):=by
 have p:∀{a b l},R0 a b l->a<w0.heap.size:=λr=>(R.lt r).1;refine⟨nW g gp n (zq8 i B) (λg j=>let⟨⟨l,q,t⟩,u⟩:=d g j;⟨l,⟨q,u⟩,t⟩),aA,zrv R,λa b l r=>.inl ⟨r.1,p r.1,I2 r.2⟩,by rw[zj2];omega,λw2 k=>?_⟩;refine⟨_,[],w2,(λa b l=>a=b/\l=0/\rO w0 a),R0,.nil,nW g.self gp n i (λg j=>⟨0,⟨rfl,rfl,(d g j).2⟩,a7 _⟩),aA,?_,λa b l r=>.inl ⟨r.1,?_,I2 r.2.2⟩,nW g gp n B (λg j=>(d g j).1),aA,?_,λa b l r=>.inl r,BR.le_refl _,λ_ _=>rfl,ao _⟩;.exact zrC k
 .have⟨c,e,f,h⟩:=r.2.2;grind
 .exact⟨λa D b F l m r s=>⟨(R.inj a D b F l m r s).1,λe=>((R.inj a D b F l m r s).2 e).imp id λz=>⟨ziY k z.1,ziY k z.2⟩⟩,λa b l r=>by have⟨o,v,w,x,y⟩:=R.obj a b l r;exact⟨o,v,k.1 a o w,x,y⟩,k.2⟩
end
abbrev zmp:ag:=baseD 126
noncomputable def Xd:Code:=f126.body.getD .skip
noncomputable def zby:ag:={(default:ag)with fn:=prog.funcs.size,defers:=[],mode:=.panicking [goexitEntry]}
def xZ(ph:Ph)(D Sd:Nat):dI:={target:=.fn (.func 126) #[.pointer (C ⟨ph.Wg,0,U⟩),.pointer (C ⟨D,0,U⟩),.pointer (C ⟨ph.Mu,0,U⟩),.pointer (C ⟨ph.Bo,0,U⟩),.pointer (C ⟨Sd,0,U⟩)],args:=#[]}
def uDr:(prog.underlying 45).any TypeDesc.isRow=E:=gK
def sDr:(prog.info? 45).map (·.size)=C 22:=gK
def zDr:((prog.info? 45).bind (·.zero)).map (λz=>z.cells.size)=C 22:=gK
def zy3:(prog.underlying 3).any (λd=>!d.isRow)=E:=gK
def zfG(ph:Ph)(D Sd:Nat)(w:V):bg prog H (born prog (xZ ph D Sd)) w=.go (G (zmp.at ⟨#[.pointer (C ⟨ph.Wg,0,U⟩),.pointer (C ⟨D,0,U⟩),.pointer (C ⟨ph.Mu,0,U⟩),.pointer (C ⟨ph.Bo,0,U⟩),.pointer (C ⟨Sd,0,U⟩),undef,undef,undef,undef,undef,undef,undef,undef,undef,undef,undef,undef,undef],[]⟩ [.code Xd]) [zby]) w #[]:=by simp[born,xZ,bg,unwind,callDeferred,invoke,callFunc,func126,f126,seen,bP,G,aF,lW,zmp,baseD,zby,Xd]
def zgs(T:Array Y)(t:List mZ):lR prog 2 0 (G {zmp.at ⟨T,[]⟩ t with mode:=.returning} [zby]):=by
 refine QuitsD.ctl (g':=G zby []) rfl (λw=>?_) ?_;.simp[G,bg,unwind,qT,results,lW,zmp,baseD,zby,func126,f126,seen,bP,goexitEntry]
 refine QuitsD.ctl (g':={G zby []with status:=.finished}) rfl (λw=>?_) ⟨rfl,rfl⟩;simp[G,bg,unwind,zby,goexitEntry,Frame.catches];rfl
def ze9{R:BR}{v a:Y}(h:VR R v a):nF a=nF v:=by cases h<;>rfl
def Lb(v:Y)(_:V):Prop:=∃cs x y,v=.tuple #[.agg cs,x,y]/\cs.size=22/\cs.all nF=E
def zjY{R:BR}{v o:Y}{w:V}(h:Lb v w)(k:VR R v o):Lb o w:=by obtain⟨cs,x,y,rfl,g,f⟩:=h;cases k with|@tuple _ z j p=>have m:z.size=3:=Y7;have⟨l⟩:=z;match l,m with|[a,b,c],_=>cases p 0 (.agg cs) a rfl rfl with|@agg _ n q e=>refine⟨n,b,c,rfl,q▸g,?_⟩;rw[aQ]at f⊢;intro u r;have⟨i,s⟩:=eA.1 r;have d:i<cs.size:=Y8;have:=e i cs[i] u (cB d) s;rw[ze9 this];simp_all
def FW(N:al)(f0:ag)(w0:V)(R0:BR)(ph:Ph)(s:Nat)(WS RS:Nat->Prop)(w:V):Prop:=∃csR x y W,(∀b,W b->WS b)/\(∀b,(∃a l,R0 a b l)->RS b)/\Gr N f0 w0 R0 W (.tuple #[.agg csR,x,y]) w/\(csR.size=22/\csR.all nF=E)/\∃cs,zx ph w cs/\zF ph s cs=csR
def Xk{N:al}{f0:ag}{w0:V}{R0:BR}{ph:Ph}{s:Nat}{WS RS:Nat->Prop}{w bd:V}(r:fF ph s (λb=>WS b\/RS b) w bd)(h:FW N f0 w0 R0 ph s WS RS w):FW N f0 w0 R0 ph s WS RS bd:=by have⟨csR,x,y,W,a,c,d,e,cs,f,g⟩:=h;have⟨l,i,j⟩:=r.bo cs f;exact⟨csR,x,y,W,a,c,d.rely λb k=>r.blk b (k.elim (λz=>.inl (a b z)) λz=>.inr (c b z)),e,l,i,j.trans g⟩
section
variable{ph:Ph}{s:Nat}{gj:Bool}{F:(Nat->Prop)->(Nat->Prop)->V->Prop}{WS RS:Nat->Prop}{T:Th}{k:Nat}{w:V}
variable{b:ag}{a:Act}{ops:Array Oper}{i:Nat}{rest:List Nat}{kk:List mZ}{cs:List ag}{o:Oper}
def zyL{s:Nat}(h:s<2)(n:Nat):s*n=0\/s*n=n:=by have:s=0\/s=1:=Y0;rcases this with rfl|rfl<;>simp
def zun{s:Nat}(h:s<2):s=0\/s=1:=Y0
def Az{α:Type}{x:Option α}{p:α->Bool}(h:x.any p=E):∃d,x=C d/\p d=E:=by cases x with|none=>cases h|some d=>simp_all
variable{t:ah}{x:aU}{r n:Nat}
def zed{q:Nat}{d:ej}{c:Array Y}{e:ah}{f:Nat×Nat}(m:T.mute=H)(A:ops[i]?=C o)(B:ar o (yielded ops a.tmps)=E)(l:b.kind≠.early)(v:o.op=.load t x)(D:a.eval x=.pointer (C ⟨r,q,U⟩))(y:WS r\/RS r)(h:w.heap[r]?=C (.cells c e f))(I:prog.underlying t=C d)(J:d.isRow=E)(K:(prog.info? t).map (·.size)=C n)(L:q+n<=c.size)(hK:∀u,fF ph s (λb=>WS b\/RS b) w u->BH prog ph s gj F ⟨T,k,WS,RS,G (b.at (a.put o.dst (.agg (c.extract q (q+n)))) (.inRegion ops rest::kk)) cs,u⟩):BH prog ph s gj F ⟨T,k,WS,RS,G (b.at a (.inRegion ops (i::rest)::kk)) cs,w⟩:=by refine nc (λ_=>rfl) λu g=>?_;have⟨M,p,j⟩:=VV (main:=H) (rest:=rest) (kk:=kk) (cs:=cs) A B l v D ((g.blk r y).trans h) I J K L;exact .Ac _ _ _ _ _ (G0 y p j) (ko j) (λz=>Y7) (hK u g)
def zjz{l:Nat}{d:ej}{v:Y}(m:T.mute=H)(u:ops[i]?=C o)(y:ar o (yielded ops a.tmps)=E)(f:b.kind≠.early)(p:o.op=.load t x)(A:a.eval x=.pointer (C ⟨r,l,U⟩))(q:WS r\/RS r)(h:w.cell? ⟨r,l,U⟩=C v)(B:prog.underlying t=C d)(D:d.isRow=H)(hK:∀n,fF ph s (λb=>WS b\/RS b) w n->BH prog ph s gj F ⟨T,k,WS,RS,G (b.at (a.put o.dst v) (.inRegion ops rest::kk)) cs,n⟩):BH prog ph s gj F ⟨T,k,WS,RS,G (b.at a (.inRegion ops (i::rest)::kk)) cs,w⟩:=by
 refine nc (λ_=>rfl) λn c=>?_;have g:n.cell? ⟨r,l,U⟩=C v:=by rw[<-h];simp[World.cell?,c.blk r q]
 have⟨I,j,e⟩:=zdf (main:=H) (rest:=rest) (kk:=kk) (cs:=cs) u y f p A g B D;exact .Ac _ _ _ _ _ (G0 q j e) (ko e) (λz=>Y7) (hK n c)
def zjw{d:iC}{z:Y}(m:T.mute=H)(l:Lv ph w)(p:ops[i]?=C o)(q:ar o (yielded ops a.tmps)=E)(h:b.kind≠.early)(g:o.op=.alloc t)(u:prog.info? t=C d)(c:d.zero=C z)(hK:∀bd j n,fF ph s (λb=>WS b\/RS b) w bd->n=bd.heap.size->j={bd with heap:=bd.heap.push (.cells z.cells t)}->BH prog ph s gj F ⟨T,k,λb=>WS b\/b=n,RS,G (b.at (a.put o.dst (.pointer (C ⟨n,0,U⟩))) (.inRegion ops rest::kk)) cs,j⟩):BH prog ph s gj F ⟨T,k,WS,RS,G (b.at a (.inRegion ops (i::rest)::kk)) cs,w⟩:=by refine nc (λ_=>rfl) λbd r=>?_;exact .Ac _ _ _ _ _ (znY (l.rely r) (EY (main:=H) (rest:=rest) (kk:=kk) (cs:=cs) (w:=bd) p q h g u c)) (λe f=>by simp at f) (λz=>Y7) (hK bd _ _ r rfl rfl)
def zjA{y:aU}{J:Nat}{c L:Array Y}{e:ah}(m:T.mute=H)(P:ops[i]?=C o)(Q:ar o (yielded ops a.tmps)=E)(l:b.kind≠.early)(N:o.op=.store t x y)(R:a.eval x=.pointer (C ⟨r,J,U⟩))(p:a.eval y=.agg L)(O:WS r)(d:¬ph.sh r)(h:w.heap[r]?=C (.cells c e))(S:(prog.info? t).map (·.size)=C n)(W:L.size=n)(X:J+n<=c.size)(q:L.all nF=E)(hK:∀M K,fF ph s (λb=>WS b\/RS b) w M->K.heap[r]?=C (.cells (c.extract 0 J++L++c.extract (J+n) c.size) e)->(∀k,k≠r->K.heap[k]?=M.heap[k]?)->BH prog ph s gj F ⟨T,k,WS,RS,G (b.at (a.put o.dst undef) (.inRegion ops rest::kk)) cs,K⟩):BH prog ph s gj F ⟨T,k,WS,RS,G (b.at a (.inRegion ops (i::rest)::kk)) cs,w⟩:=by refine nc (λ_=>rfl) λM f=>?_;have⟨K,Z,u,g,v,j,A,B,I,D,_⟩:=EZ (main:=H) (rest:=rest) (kk:=kk) (cs:=cs) P Q l N R p ((f.blk r (.inl O)).trans h) S W X q;exact .Ac _ _ _ _ _ (JA O d u g j A B I D) (ko g) (λz=>Y7) (hK M K f v j)
def zuu{y:aU}{M:Array Y}(m:T.mute=H)(l:Lv ph w)(e:s<2)(O:ph.d=n)(W:ops[i]?=C o)(X:ar o (yielded ops a.tmps)=E)(p:b.kind≠.early)(R:o.op=.store t x y)(Z:a.eval x=.pointer (C ⟨ph.Bo,s*n,U⟩))(q:a.eval y=.agg M)(hs:(prog.info? t).map (·.size)=C n)(P:M.size=n)(u:M.all nF=E)(hK:∀Q L N,fF ph s (λb=>WS b\/RS b) w Q->zx ph L N->zF ph s N=M->(∀k,k≠ph.Bo->L.heap[k]?=Q.heap[k]?)->BH prog ph s gj F ⟨T,k,WS,RS,G (b.at (a.put o.dst undef) (.inRegion ops rest::kk)) cs,L⟩):BH prog ph s gj F ⟨T,k,WS,RS,G (b.at a (.inRegion ops (i::rest)::kk)) cs,w⟩:=by
 refine nc (λ_=>rfl) λQ r=>?_;have⟨c,S⟩:=(l.rely r).bo;have h:=O▸S.2;have v:=zyL e n;have hn:s*n+n<=c.size:=Y0;have⟨L,es,A,f,g,j,B,I,D,J,_⟩:=EZ (main:=H) (rest:=rest) (kk:=kk) (cs:=cs) W X p R Z q S.1 hs P hn u;have K:zx ph L (c.extract 0 (s*n)++M++c.extract (s*n+n) c.size):=by refine⟨g,?_⟩;simp only[Array.size_append,Array.size_extract,P,O,h];omega
 exact .Ac _ _ _ _ _ (zr1 e O S P A f g j B I D J) (ko f) (λz=>Y7) (hK Q L _ r K (zj8 ph O h P e) j)
def zjx{f:FuncId}{l:Func}{args:Array aU}{p:Array ah}(m:T.mute=H)(t:ops[i]?=C o)(u:ar o (yielded ops a.tmps)=E)(h:b.kind≠.early)(q:o.op=.call {callee:=.value (.func f),args,argTypes:=p})(c:prog.funcs[f]?=C l)(n:(l.name== "runtime.NumGoroutine")=H)(d:l.body.isNone=H)(hK:∀g,fF ph s (λb=>WS b\/RS b) w g->BH prog ph s gj F ⟨T,k,WS,RS,G (aF prog f (args.map a.eval) .normal) (b.at a (.inRegion ops (i::rest)::kk)::cs),g⟩):BH prog ph s gj F ⟨T,k,WS,RS,G (b.at a (.inRegion ops (i::rest)::kk)) cs,w⟩:=by refine nc (λ_=>rfl) λg r=>?_;exact .Ac _ _ _ _ _ (zhQ _ g _ RS (pV (main:=H) (rest:=rest) (kk:=kk) (cs:=cs) (w:=g) t u h q c n d)) (λe j=>by simp at j) (λ_=>⟨rfl,rfl,rfl,rfl⟩) (hK g r)
end
section
variable{N:al}{f0:ag}{w0 W MA:V}{R0:BR}{WS:Nat->Prop}
def Gr.zo0{v:Y}(h:Gr N f0 w0 R0 WS v W)(c:∀b,b<W.heap.size->(WS b\/∃a l,R0 a b l)->MA.heap[b]?=W.heap[b]?):Gr N f0 w0 R0 WS v MA:=⟨λw2 e=>by have⟨j,w,R,m,d,k3,k,f,g,i⟩:=h.ext w2 e;exact⟨j,w,R,m,d,k3.right λa b l r=>c b (k3.lt r).2 ((k a b l r).elim (λz=>.inr ⟨a,l,z⟩) λz=>.inl z.2),k,f,g,i⟩⟩
end
section
variable{ph:Ph}{s:Nat}{gj:Bool}{F:(Nat->Prop)->(Nat->Prop)->V->Prop}{WS RS:Nat->Prop}{T:Th}{k:Nat}{w:V}
variable{b:ag}{a:Act}{ops:Array Oper}{i:Nat}{rest:List Nat}{kk:List mZ}{cs:List ag}{o:Oper}
def zmH{v:Y}(j:ops[i]?=C o)(l:ar o (yielded ops a.tmps)=E)(f:b.kind≠.early)(h:∀w,(aG a.eval o).run prog w=.ok (.value v) w)(c:∀w,(aG a.eval o).events prog w #[]=#[])(hK:∀g,fF ph s (λb=>WS b\/RS b) w g->BH prog ph s gj F ⟨T,k,WS,RS,G (b.at (a.put o.dst v) (.inRegion ops rest::kk)) cs,g⟩):BH prog ph s gj F ⟨T,k,WS,RS,G (b.at a (.inRegion ops (i::rest)::kk)) cs,w⟩:=by refine nc (λ_=>rfl) λg r=>?_;have d:=tu (main:=H) (rest:=rest) (kk:=kk) (cs:=cs) (w':=g) j l f (by rw[Sem.runT_eq,h,c]);rw[sV]at d;exact .Ac _ _ _ _ _ (zhQ _ g _ RS d) (λe c=>by simp at c) (λ_=>⟨rfl,rfl,rfl,rfl⟩) (hK g r)
end
section
variable{N:al}{ph:Ph}{s:Nat}{gj:Bool}{w0 W:V}{R0:BR}{RS:Nat->Prop}{D Sd:Nat}{csG csR:Array Y}
def V4(g:PG N prog)(gp:GP N)(ok:ph.Ok)(hd:ph.d=22)(htW:ph.tW=164)(hs:s<2)(hf:∃fn,N.funcs[128]?=C fn/\fn.body.isSome=E)(hT:fG N (λ_ _ _ _=>False) Lb (aF N 128 #[.agg csG] .normal) [] (UK w0))(hR:HR R0 w0 W)(hx:AV R0 csG csR)(G:AV (λa b l=>a=b/\l=0/\rO w0 a) csG csG)(hgl:GlR R0 w0)(YF:csR.size=22){eD:ah}{fD:Nat×Nat}(hD:W.heap[D]?=C (.cells csR eD fD))(hSd:W.cell? ⟨Sd,0,U⟩=C (.int .i64 s))(i:∀b,(∃a l,R0 a b l)->RS b)(A:RS D)(R:RS Sd)(B:∀b,RS b->¬ph.sh b)(hl:Lv ph W)(k:Nat):BH prog ph s gj (FW N (aF N 128 #[.agg csG] .normal) w0 R0 ph s) ⟨at_ .ld,k,λ_=>False,RS,born prog (xZ ph D Sd),W⟩:=by
 have⟨dD,I,J⟩:=Az uDr;have⟨d3,hu3,Q0⟩:=Az zy3;have Q0:d3.isRow=H:=by simpa using Q0
 have⟨z,hz1,hz2⟩:=ak.1 zDr;have⟨inf,hi,hz⟩:=bH.1 hz1;refine nc (λ_=>rfl) λbd zmz=>?_;refine .Ac _ _ _ _ _ (zhQ _ bd _ RS (zfG ph D Sd bd)) (λe he=>by simp at he) (λ_=>⟨rfl,rfl,rfl,rfl⟩) ?_;have hF:KX ph s (λb=>False\/RS b) bd bd:=⟨ok,λb f=>B b (f.resolve_left id),.refl _ _,hl.rely zmz⟩;refine lB (m:=30) ?_ (λg w h=>h w (fF.refl _ _));simp only[Xd,f126,db];repeat w_go KX.rely
 u_defer KX.rely hF;repeat w_go KX.rely
 refine ba (λTa zyX=>?_);have hF:=hF.rely zyX;have L:=((hF.r.blk D (.inr A)).trans (zmz.blk D (.inr A))).trans hD;refine zed rfl rfl rfl Y4 rfl rfl (.inr A) L I J sDr Y0 λeU zyY=>?_;have hF:=hF.rely zyY;walk_nrm;refine zjx rfl rfl rfl Y4 rfl func128 zuZ gK λzmA zyZ=>?_;have hF:=hF.rely zyZ;have hex:csR.extract 0 (0+22)=csR:=by apply iF;simp[df,cf,jY,oW,ew];exact aM (by simp[YF])
 walk_nrm;rw[hex];have S:∀{u:V},u.cell? ⟨Sd,0,U⟩=C (.int .i64 s)->Sd<u.heap.size:=by
  intro u hu;rcases mz Sd u.heap.size with h|h;.exact h
  .simp[World.cell?,Array.getElem?_eq_none h]at hu
 have c:∀{u u':V},u'.heap[Sd]?=u.heap[Sd]?->u'.cell? ⟨Sd,0,U⟩=u.cell? ⟨Sd,0,U⟩:=by intro u u' e;simp[World.cell?,e]
 have M:zmA.cell? _=C (.int .i64 s):=(c ((hF.r.blk Sd (.inr R)).trans (zmz.blk Sd (.inr R)))).trans hSd;have P:HR R0 w0 zmA:=hR.right λa b l r=>(hF.r.blk b (.inr (i b ⟨a,l,r⟩))).trans (zmz.blk b (.inr (i b ⟨a,l,r⟩)));apply zjy g gp hT (L':=[]) (zj3 g gp hf P (AV.one (.agg hx.size hx.at_)) (AV.one (.agg G.size G.at_)) hgl (λ_=>False)) i hF.l (λb _ z=>z);intro v w1 v' vE W' R' q1 q2 _ q4 q5 q7 q6;clear hF;obtain⟨IM,x,y,rfl,Q,O⟩:=zjY q1 q2;rw[Frame.finish_at];walk_nrm;have hF:KX ph s (λb=>vE b\/RS b) W' W':=⟨ok,λb f=>f.elim (λh hs=>q4 b hs h) (B b),.refl _ _,q5⟩;refine lB (m:=30) ?_ (λg w h=>h w (fF.refl _ _));repeat w_go KX.rely
 refine ba (λkH zuk=>?_);have hF:=hF.rely zuk;refine zjw rfl hF.l rfl rfl Y4 rfl hi hz λIY zus n0 T Q1 p=>?_;walk_nrm;have hn:zus.heap[n0]?=C (.cells z.cells 45):=by rw[p,Q1];simp
 have Q2:Lv ph zus:=p▸zi3 (hF.l.rely T);have n:¬ph.sh n0:=λh=>by have:=(hF.l.rely T).lt h;omega
 refine zjA rfl rfl rfl Y4 rfl rfl rfl (.inr rfl) n hn sDr Q Y0 O λzDl zmB zq0 h9 X=>?_;walk_nrm;have hl9:=(Q2.rely zq0).same λb f=>X b λe=>n (e▸f);have j:∀b,b<W'.heap.size->(vE b\/RS b)->zmB.heap[b]?=W'.heap[b]?:=by intro b f q;have zCQ:=(hF.rely T).r.size;have hne:b≠n0:=Y0;rw[X b hne,zq0.blk b (q.imp .inl id),p];rw[bx,if_neg Y0];exact(hF.rely T).r.blk b q
 have hGr:=q6.zo0 λb f q=>j b f (q.imp id (i b));have Q3:=(c (q7 Sd R (S M) (λz=>z))).trans M;have hS9:=(c (j Sd (S Q3) (.inr R))).trans Q3;clear j hF zuk T zq0 q6 q7 Q1 p hn Q2 hex L P;have hF:KX ph s (λb=>(vE b\/b=n0)\/RS b) zmB zmB:=⟨ok,λb f=>by
  rcases f with(h|rfl)|h;.exactλhs=>q4 b hs h
  .exact n
  .exact B b h,.refl _ _,hl9⟩;refine lB (m:=30) ?_ (λg w h=>h w (fF.refl _ _));repeat w_go KX.rely
 refine ba (λzwy znL=>?_);refine XQ (w0:=zmB) rfl rfl Y4 rfl (by simp[a8]) (λk w hF=>?_) k (hF.rely znL);walk_nrm;refine lB (m:=30) ?_ (λg w h=>h w (fF.refl _ _));repeat w_go KX.rely
 u_defer KX.rely hF;repeat w_go KX.rely
 refine ba (λw znM=>?_);have hF:=hF.rely znM;refine zjz rfl rfl rfl Y4 rfl rfl (.inr R) ((c (hF.r.blk Sd (.inr R))).trans hS9) hu3 Q0 λw znN=>?_;have hF:=hF.rely znN;walk_nrm;refine zed rfl rfl rfl Y4 rfl rfl (.inl (.inr rfl)) ((hF.r.blk n0 (.inl (.inr rfl))).trans h9) I J sDr (by simp[Q,hz2]) λw znO=>?_;have hF:=hF.rely znO;have Z:(z.cells.extract 0 0++IM++z.cells.extract (0+22) z.cells.size).extract 0 (0+22)=IM:=by apply iF;simp only[df,fE,cf,jY,oW,ew,List.take_zero,gX];exact zd (by simp[Q])
 rw[Z];walk_nrm;refine zmH (v:=.pointer (C ⟨ph.Bo,s*22,U⟩)) rfl rfl Y4 (λw=>?_) (λw=>?_) λw znP=>?_
 .have t:=zun hs;rcases t with t|t<;>rw[t]<;>(simp[go_sem,a8])
 .have t:=zun hs;rcases t with t|t<;>rw[t]<;>(simp[go_sem,a8,gm,cC])
 have hF:=hF.rely znP;walk_nrm;refine zuu rfl hF.l hs hd rfl rfl Y4 rfl rfl rfl sDr Q O λw w' cs' zeP hb1 hb2 Q4=>?_;have hl':Lv ph w':=by
  have h0:=(hF.rely zeP).l;refine⟨?_,?_,⟨cs',hb1⟩⟩;.have⟨x,y,h⟩:=h0.mu;exact⟨x,y,(Q4 _ ok.mb).trans h⟩
  .have⟨x,y,h⟩:=h0.wg;exact⟨x,y,(Q4 _ ok.wb).trans h⟩
 have F:=hF.rely zeP;have hFW:FW N (aF N 128 #[.agg csG] .normal) w0 R0 ph s (λb=>vE b\/b=n0) RS w':=⟨IM,x,y,vE,λb h=>.inl h,i,hGr.zo0 λb _ f=>(λb f=>(Q4 b λe=>F.st b f (.inr (.inr e))).trans (F.r.blk b f)) b (f.elim (λh=>.inl (.inl h)) λh=>.inr (i b h)),⟨Q,O⟩,cs',hb1,hb2⟩;have hFx:KX ph s (λb=>(vE b\/b=n0)\/RS b) w' w':=⟨ok,F.st,.refl _ _,hl'⟩;have hF:=hFx;walk_nrm;refine lB (m:=30) ?_ (λg w h=>h w (fF.refl _ _));repeat w_go KX.rely
 refine ba (λzwz znQ=>?_);refine Td (w0:=w') rfl (λk w hF=>?_) k (hF.rely znQ);exact zaE htW rfl (zgs _ _) (λw bd r h=>Xk r h) (Xk hF.r hFW) k hF
end
end Rn
namespace Rn
open Go Go.Conc Go.ConcM
open Go.ConcR(KK WgAt stA smA rd wr mk DC0)
inductive MT where|st|ad(i:Nat)|go(i:Nat)|w1|w2(v:Nat)|w3|w4|aq|fin(mi iR:Array Y)
structure Nm where
 T:MT
 k:Nat
 d:Nat
 WS:Nat->Prop
 RS:Nat->Prop
 XS:Nat->Prop
 g:av
 w:V
def Nm.St(x:Nm)(b:Nat):Prop:=(x.WS b\/x.RS b)\/x.XS b
def noX:Nat->Prop:=λ_=>False
def IP(ph:Ph)(x:Nm)(a:V):Prop:=fF ph 2 x.St x.w a/\(x.T=.st->a.heap.size=x.w.heap.size)
section
variable(P:al)(ph:Ph)(F:Nat->(Nat->Prop)->(Nat->Prop)->V->Prop)(cF:ag)(csF:List ag)
structure Wi(ex:Nat->Prop)(WS RS:Nat->Prop)(g:av)(bd:V)(g':av)(w':V)(es:Array bB):Prop where
 st:bg P E g bd=.go g' w' es
 size:w'.heap.size=bd.heap.size
 blk:∀b,¬ex b->w'.heap[b]?=bd.heap[b]?
 os:oM bd.os w'.os
 tape:w'.tape=bd.tape
 output:w'.output=bd.output
 ev:∀e∈es,s0 ph 2 E WS RS e
inductive zfo(x:Nm)(bd:V)(B:Nm->Prop):Prop|deep(h:x.k=0)|Ac(vE:Nat->Prop)(g':av)(w':V)(es:Array bB)(h:Sil P ph 2 E x.WS x.RS x.g bd vE g' w' es [])(hst:x.T=.st->es=#[])(hB:B {x with WS:=vE,g:=g',w:=w',d:=cu x.d es})|est(hT:x.T=.st)(hd:x.d=0)(vE:Nat->Prop)(g':av)(w':V)(h:Sil P ph 2 E x.WS x.RS x.g bd vE g' w' #[] [])(h1:MuAt ph.tM ph.Mu w' 0 0)(h2:WgAt ph.tW ph.Wg w' 0 0)(h3:∃cs,zx ph w' cs)(hB:B ⟨.ad 0,x.k,0,vE,x.RS,noX,g',w'⟩)|ad(i:Nat)(hT:x.T=.ad i)(h:∀v:Nat,v<=1->WgAt ph.tW ph.Wg bd ((v:Int)*KK) 0->∃g' w' es,Wi P ph (λb=>b=ph.Wg) x.WS x.RS x.g bd g' w' es/\WgAt ph.tW ph.Wg w' (((v+1:Nat):Int)*KK) 0/\B {x with T:=.go i,g:=g',w:=w',d:=cu x.d es})|go(i:Nat)(hT:x.T=.go i)(hi:i<2)(hd:x.d=0)(g' s9:av)(RSc vE:Nat->Prop)(h:bg P E x.g bd=.spawn g' s9 bd #[])(hr:s9.status=.running)(h1:∀b,RSc b->x.WS b\/x.RS b)(h2:∀b,vE b->x.WS b/\¬RSc b)(hc:∀kc,BH P ph i (i==0) (F i) ⟨at_ .ld,kc,noX,RSc,s9,bd⟩)(hB:B {x with T:=if i=0 then .ad 1 else .w1,g:=g',w:=bd,WS:=vE})|w1(hT:x.T=.w1)(h:∀v:Nat,v<=2->WgAt ph.tW ph.Wg bd ((v:Int)*KK) 0->∃g' es,Wi P ph (λ_=>False) x.WS x.RS x.g bd g' bd es/\B {x with T:=if v=0 then .aq else .w2 v,g:=g',w:=bd,d:=cu x.d es})|w2(v:Nat)(hT:x.T=.w2 v)(h:∀u:Nat,u<=2->WgAt ph.tW ph.Wg bd ((u:Int)*KK) 0->(u=v->∃g' w' es,Wi P ph (λb=>b=ph.Wg) x.WS x.RS x.g bd g' w' es/\WgAt ph.tW ph.Wg w' ((u:Int)*KK+1) 0/\B {x with T:=.w3,g:=g',w:=w',d:=cu x.d es})/\(u≠v->∃g' es,Wi P ph (λ_=>False) x.WS x.RS x.g bd g' bd es/\B {x with T:=.w1,k:=x.k-1,g:=g',w:=bd,d:=cu x.d es}))|w3(hT:x.T=.w3)(ho:x.g.offers=U)(h1:(∃v,WgAt ph.tW ph.Wg bd v 0)->bg P E x.g bd=.go {x.g with status:=.blocked} bd #[])(h2:WgAt ph.tW ph.Wg bd 0 1->∃g' w' es,Wi P ph (λb=>b=ph.Wg) x.WS x.RS x.g bd g' w' es/\WgAt ph.tW ph.Wg w' 0 0/\B {x with T:=.w4,g:=g',w:=w',d:=cu x.d es})|w4(hT:x.T=.w4)(h:WgAt ph.tW ph.Wg bd 0 0->∃g' es,Wi P ph (λ_=>False) x.WS x.RS x.g bd g' bd es/\B {x with T:=.aq,g:=g',w:=bd,d:=cu x.d es})|aq(hT:x.T=.aq)(hd:x.d=0)(g':av)(h:bg P E x.g bd=.go g' bd #[mk (.acquire (stA ph.Wg))])(hx:∀mi iR:Array Y,mi.size=ph.d->iR.size=ph.d->(mi++iR).all nF=E->zx ph bd (mi++iR)->B {x with T:=.fin mi iR,RS:=λb=>b=ph.Bo,g:=g',w:=bd})|fin(mi iR:Array Y)(hT:x.T=.fin mi iR)(hd:x.d=0)(h:x.g=G (cF.finish (.agg (mi++iR))) csF)
def BhM:Rk->Nm->Prop|.nd _ f,x=>(x.k≠0->x.g.status=.running)/\∀w,IP ph x w->zfo P ph F cF csF x w λy=>∃i,BhM (f i) y
def r9(x:Nm):Prop:=∃r,BhM P ph F cF csF r x
end
section
variable{P:al}{ph:Ph}{F:Nat->(Nat->Prop)->(Nat->Prop)->V->Prop}{cF:ag}{csF:List ag}
variable{x:Nm}
def zfo.mono{p:V}{B B':Nm->Prop}(f:∀y,B y->B' y)(h:zfo P ph F cF csF x p B):zfo P ph F cF csF x p B':=by cases h with
 |deep h=>exact .deep h|Ac W l w m h s g=>exact .Ac W l w m h s (f _ g)|est T hd W l w h c d j g=>exact .est T hd W l w h c d j (f _ g)|ad i T h=>refine .ad i T λv c d=>?_;have⟨l,w,m,n,o,q⟩:=h v c d;grind|go i T r hd l s9 R W h t c d z g=>exact .go i T r hd l s9 R W h t c d z (f _ g)|w1 T h=>refine .w1 T λv c d=>?_;have⟨l,m,n,o⟩:=h v c d;grind|w2 v T h=>
  refine .w2 v T λu c d=>⟨λe=>?_,λe=>?_⟩;.grind
  .grind|w3 T A c d=>refine .w3 T A c λe=>?_;have⟨l,w,m,n,o,q⟩:=d e;grind|w4 T h=>refine .w4 T λe=>?_;have⟨l,m,n,o⟩:=h e;grind|aq T hd l h D=>exact .aq T hd l h λa b c d j k=>f _ (D a b c d j k)|fin a b T hd h=>exact .fin a b T hd h
def fU(b:x.k≠0->x.g.status=.running)(h:∀w,IP ph x w->zfo P ph F cF csF x w (r9 P ph F cF csF)):r9 P ph F cF csF x:=by refine⟨.nd {y:Nm//r9 P ph F cF csF y} λy=>dP y.2,?_⟩;exact⟨b,λw c=>(h w c).mono λy a=>⟨⟨y,a⟩,Classical.choose_spec a⟩⟩
def qR{r:Rk}(h:BhM P ph F cF csF r x):(x.k≠0->x.g.status=.running)/\∀w,IP ph x w->zfo P ph F cF csF x w λy=>∃a,Rk.lt a r/\BhM P ph F cF csF a y:=by cases r with|nd ι f=>refine⟨h.1,λw b=>(h.2 w b).mono ?_⟩;rintro y⟨i,c⟩;exact⟨f i,Rk.zoT f i,c⟩
def IP.refl(x:Nm):IP ph x x.w:=⟨fF.refl _ _,λ_=>rfl⟩
def IP.trans{x:Nm}{bd Ta:V}(h:IP ph x bd)(k:IP ph {x with w:=bd} Ta):IP ph x Ta:=⟨h.1.trans k.1,λe=>(k.2 e).trans (h.2 e)⟩
def Pg{r:Rk}{bd:V}(h:BhM P ph F cF csF r x)(k:IP ph x bd):BhM P ph F cF csF r {x with w:=bd}:=by cases r with|nd ι f=>refine⟨h.1,λg n=>?_⟩;have:=h.2 g (k.trans n);cases this with|deep h=>exact .deep h|Ac W l m es h s c=>exact .Ac W l m es h s c|est T hd W l m h d e j c=>exact .est T hd W l m h d e j c|ad i T h=>exact .ad i T h|go i T o hd l s9 R W h p d e q c=>exact .go i T o hd l s9 R W h p d e q c|w1 T h=>exact .w1 T h|w2 v T h=>exact .w2 v T h|w3 T t d e=>exact .w3 T t d e|w4 T h=>exact .w4 T h|aq T hd l h u=>exact .aq T hd l h u|fin a b T hd h=>exact .fin a b T hd h
end
end Rn
namespace Rn
open Go Go.Conc Go.ConcN Go.ConcM Go.RowKit Go.Conc.Lib Go.ConcR.Gen
open Go.ConcR(KK WgAt stA smA rd wr mk DC0)
def RM(ph:Ph)(T:MT)(St:Nat->Prop)(w a:V):Prop:=fF ph 2 St w a/\(T=.st->a.heap.size=w.heap.size)
def RM.refl{ph:Ph}{T:MT}{St:Nat->Prop}(w:V):RM ph T St w w:=⟨fF.refl _ _,λ_=>rfl⟩
def RM.trans{ph:Ph}{T:MT}{St:Nat->Prop}{w a Ta:V}(h:RM ph T St w a)(k:RM ph T St a Ta):RM ph T St w Ta:=⟨h.1.trans k.1,λe=>(k.2 e).trans (h.2 e)⟩
def xq{es:Array bB}(h:WH es)(d:Nat):cu d es=d:=by have⟨l⟩:=es;induction l with|nil=>rfl|cons e l i=>rw[Go.ConcR.deafBehind_cons,Go.ConcR.deafBehind_one (h e Y1).1 (h e Y1).2];exact i (λx a=>h x Y7)
section
variable{P:al}{ph:Ph}{F:Nat->(Nat->Prop)->(Nat->Prop)->V->Prop}{cF:ag}{csF:List ag}{T:MT}{k d:Nat}{WS RS XS:Nat->Prop}{g g':av}{w w':V}{es:Array bB}
def AB{Stop:av->V->Prop}:∀{m:Nat}{g:av}{w:V},Goes P E (RM ph T λb=>(WS b\/RS b)\/XS b) DC0 Stop m g w->(∀g w,(∀f,RM ph T (λb=>(WS b\/RS b)\/XS b) w f->Stop g f)->r9 P ph F cF csF ⟨T,k,d,WS,RS,XS,g,w⟩)->r9 P ph F cF csF ⟨T,k,d,WS,RS,XS,g,w⟩
 |0,g,w,h,S=>S _ _ h|m+1,g,w,h,S=>by
  rcases h with j|⟨r,s⟩;.simp_all
  .refine fU (λ_=>r) λf i=>?_;have⟨g',w',es,e,⟨a,c⟩,n⟩:=goes_elim (s f i);subst a c;exact .Ac WS g' w' #[] ⟨.inl ⟨rfl,e⟩,ao _,λ_ _ _ _=>rfl,λcs h=>⟨cs,h,λ_ _ _=>rfl⟩,.refl _,rfl,rfl,Y1,Y1,Ox⟩ (λ_=>rfl) (AB n S)
def bL{m:Nat}(p:T≠.st)(h:Goes P E (fF ph 2 λb=>(WS b\/RS b)\/XS b) DC0 (λg w=>r9 P ph F cF csF ⟨T,k,d,WS,RS,XS,g,w⟩) m g w):r9 P ph F cF csF ⟨T,k,d,WS,RS,XS,g,w⟩:=by
 have f:∀{m:Nat}{g:av}{w:V},Goes P E (fF ph 2 λb=>(WS b\/RS b)\/XS b) DC0 (λg w=>r9 P ph F cF csF ⟨T,k,d,WS,RS,XS,g,w⟩) m g w->r9 P ph F cF csF ⟨T,k,d,WS,RS,XS,g,w⟩:=by intro m;induction m with|zero=>intro g w h;exact h w (fF.refl _ _)|succ m i=>
  intro g w h;rcases h with j|⟨r,s⟩;.exact j w (fF.refl _ _)
  .refine fU (λ_=>r) λl n=>?_;have⟨g',w',es,e,⟨a,c⟩,o⟩:=goes_elim (s l n.1);subst a c;exact .Ac WS g' w' #[] ⟨.inl ⟨rfl,e⟩,ao _,λ_ _ _ _=>rfl,λcs h=>⟨cs,h,λ_ _ _=>rfl⟩,.refl _,rfl,rfl,Y1,Y1,Ox⟩ (λ_=>rfl) (i o)
 exact f h
def zcb(e:bg P E g w=.go g' w es)(a:∀e∈es,s0 ph 2 E WS RS e):Sil P ph 2 E WS RS g w WS g' w es []:=⟨.inl ⟨rfl,e⟩,ao _,λ_ _ _ _=>rfl,λcs h=>⟨cs,h,λ_ _ _=>rfl⟩,.refl _,rfl,rfl,a,Y1,Ox⟩
def ZN:∀e∈#[mk .disable],s0 ph 2 E WS RS e:=by intro e b;simp at b;subst b;exact⟨λx c=>by simp[aI,cd,mk]at c,λa h=>by simp[aI,mk]at h⟩
def Gg:∀e∈#[mk .enable],s0 ph 2 E WS RS e:=by intro e b;simp at b;subst b;exact⟨λx c=>by simp[aI,cd,mk]at c,λa h=>by simp[aI,mk]at h⟩
def Jj(a:bX)(h:a.block=ph.Wg):(∀e∈#[mk (.read a)],s0 ph 2 E WS RS e)/\∀e∈#[mk (.write a)],s0 ph 2 E WS RS e:=by refine⟨λe b=>?_,λe b=>?_⟩<;>simp at b<;>subst b;all_goals refine⟨λx c=>?_,λa h=>by simp[aI,mk]at h⟩;simp[mk,aI,cd,ay]at c;subst c;exact .inr (.inr ⟨_,rfl,.inr h,Y1,λ_=>rfl⟩)
def Gf(a:bX)(w:Bool)(h:a.block=ph.Wg):s0 ph 2 E WS RS ⟨.cell a,w,E⟩:=by
 refine⟨λx b=>?_,λa h=>by cases w<;>cases h⟩;have:x=⟨.cell a,w,.atomic⟩:=by cases w<;>simpa[aI,cd,eq_comm]using b
 subst this;exact .inr (.inr ⟨_,rfl,.inr h,Y1,Y1⟩)
def Oe:∀e∈#[rd (stA ph.Wg),wr (stA ph.Wg)],s0 ph 2 E WS RS e:=by
 intro e h;simp at h;rcases h with rfl|rfl;.exact Gf _ H rfl
 .exact Gf _ E rfl
def x3:∀e∈#[rd (stA ph.Wg)],s0 ph 2 E WS RS e:=by intro e h;simp at h;subst h;exact Gf _ H rfl
def ZO:∀e∈semEvents (smA ph.Wg),s0 ph 2 E WS RS e:=by
 intro e b;simp[semEvents]at b;rcases b with rfl|rfl|rfl|rfl;.exact⟨λx c=>by simp[aI,cd]at c,λa h=>by simp[aI]at h⟩
 .exact Gf _ _ rfl
 .exact Gf _ _ rfl
 .exact⟨λx c=>by simp[aI,cd]at c,λa h=>by simp[aI]at h⟩
def pW(e:bg P E g w=.go g' w es)(h:∀e∈es,s0 ph 2 E WS RS e):Wi P ph (λ_=>False) WS RS g w g' w es:=⟨e,rfl,λ_ _=>rfl,.refl _,rfl,rfl,h⟩
def Cn{a:bX}{v:Y}(d:a.block=ph.Wg)(e:bg P E g w=.go g' (w.setCell a v) es)(h:∀e∈es,s0 ph 2 E WS RS e):Wi P ph (λb=>b=ph.Wg) WS RS g w g' (w.setCell a v) es:=have A:=aside_setCell w a v
 ⟨e,A.size,λb c=>A.block b λz=>c (z.trans d),by rw[A.os];exact .refl _,A.tape,A.output,h⟩
def vK{d':Nat}(a:g.status=.running)(h:∀f,fF ph 2 (λb=>(WS b\/RS b)\/XS b) w f->∃g',bg P E g f=.go g' f es/\r9 P ph F cF csF ⟨T,k,d',WS,RS,XS,g',f⟩)(c:∀e∈es,s0 ph 2 E WS RS e)(i:cu d es=d')(j:T≠.st:=by simp):r9 P ph F cF csF ⟨T,k,d,WS,RS,XS,g,w⟩:=by refine fU (λ_=>a) λf r=>?_;have⟨g',e,B⟩:=h f r.1;refine .Ac WS g' f es (zcb e c) (λh=>absurd h j) ?_;rw[i];exact B
end
section
variable{ph:Ph}{F:Nat->(Nat->Prop)->(Nat->Prop)->V->Prop}{cF:ag}{csF:List ag}{T:MT}{k d:Nat}{WS RS XS:Nat->Prop}{w:V}
variable{b:ag}{a:Act}{ops:Array Oper}{i:Nat}{rest:List Nat}{kk:List mZ}{cs:List ag}{o:Oper}
variable{t e:ah}{x:aU}{r:Nat}{c:Array Y}
def Gz{q n:Nat}{g:ej}{f:Nat×Nat}(y:ops[i]?=C o)(z:ar o (yielded ops a.tmps)=E)(m:b.kind≠.early)(u:o.op=.load t x)(A:a.eval x=.pointer (C ⟨r,q,U⟩))(v:WS r\/RS r)(h:w.heap[r]?=C (.cells c e f))(B:prog.underlying t=C g)(D:g.isRow=E)(I:(prog.info? t).map (·.size)=C n)(J:q+n<=c.size)(hK:∀s,RM ph T (λb=>(WS b\/RS b)\/XS b) w s->r9 prog ph F cF csF ⟨T,k,d,WS,RS,XS,G (b.at (a.put o.dst (.agg (c.extract q (q+n)))) (.inRegion ops rest::kk)) cs,s⟩)(K:T≠.st:=by simp):r9 prog ph F cF csF ⟨T,k,d,WS,RS,XS,G (b.at a (.inRegion ops (i::rest)::kk)) cs,w⟩:=by refine fU (λ_=>rfl) λs j=>?_;have⟨es,p,l⟩:=VV (main:=E) (rest:=rest) (kk:=kk) (cs:=cs) y z m u A ((j.1.blk r (.inl v)).trans h) B D I J;refine .Ac _ _ _ _ (G0 v p l) (λh=>absurd h K) ?_;rw[xq (ko l)];exact hK s j
def PQ{P:al}{g g':av}{o:Obj}(e:bg P E g w=.go g' {w with heap:=w.heap.push o} #[]):Sil P ph 2 E WS RS g w (λb=>WS b\/(b=w.heap.size/\¬ph.sh b)) g' {w with heap:=w.heap.push o} #[] []:=by
 have blk:∀b,b<w.heap.size->(w.heap.push o)[b]?=w.heap[b]?:=Y8;refine⟨.inl ⟨rfl,e⟩,Y1,λb a _ _=>blk b a,λcs h=>⟨cs,⟨(blk _ (ab.1 h.1).1).trans h.1,h.2⟩,λ_ _ _=>rfl⟩,.refl _,rfl,rfl,Y1,Y1,λb=>?_⟩;simp[y6];constructor;.grind
 .grind
def pS{e:iC}{z:Y}(g:ops[i]?=C o)(j:ar o (yielded ops a.tmps)=E)(h:b.kind≠.early)(f:o.op=.alloc t)(l:prog.info? t=C e)(c:e.zero=C z)(hK:∀bd w' n,RM ph T (λb=>(WS b\/RS b)\/XS b) w bd->n=bd.heap.size->w'={bd with heap:=bd.heap.push (.cells z.cells t)}->r9 prog ph F cF csF ⟨T,k,d,λb=>WS b\/(b=n/\¬ph.sh b),RS,XS,G (b.at (a.put o.dst (.pointer (C ⟨n,0,U⟩))) (.inRegion ops rest::kk)) cs,w'⟩):r9 prog ph F cF csF ⟨T,k,d,WS,RS,XS,G (b.at a (.inRegion ops (i::rest)::kk)) cs,w⟩:=by refine fU (λ_=>rfl) λbd r=>?_;exact .Ac _ _ _ _ (PQ (EY (main:=E) (rest:=rest) (kk:=kk) (cs:=cs) (w:=bd) g j h f l c)) (λ_=>rfl) (hK bd _ _ r rfl rfl)
variable{v:Y}
def zmI(e:ops[i]?=C o)(f:ar o (yielded ops a.tmps)=E)(h:b.kind≠.early)(c:o.op=.box t x)(g:a.eval x=v)(hK:∀bd w' n,RM ph T (λb=>(WS b\/RS b)\/XS b) w bd->n=bd.heap.size->w'={bd with heap:=bd.heap.push (.cells v.cells t)}->r9 prog ph F cF csF ⟨T,k,d,λb=>WS b\/(b=n/\¬ph.sh b),RS,XS,G (b.at (a.put o.dst (.pointer (C ⟨n,0,U⟩))) (.inRegion ops rest::kk)) cs,w'⟩):r9 prog ph F cF csF ⟨T,k,d,WS,RS,XS,G (b.at a (.inRegion ops (i::rest)::kk)) cs,w⟩:=by refine fU (λ_=>rfl) λbd r=>?_;exact .Ac _ _ _ _ (PQ (zlg (P:=prog) (main:=E) (rest:=rest) (kk:=kk) (cs:=cs) (w:=bd) e f h c g)) (λ_=>rfl) (hK bd _ _ r rfl rfl)
def zmJ{g:iC}{z:Y}(m:ops[i]?=C o)(p:ar o (yielded ops a.tmps)=E)(d:b.kind≠.early)(j:o.op=.alloc t)(q:prog.info? t=C g)(e:g.zero=C z)(s:∀bd,RM ph .st (λb=>(WS b\/RS b)\/XS b) w bd->ph.sh bd.heap.size)(f:∀bd w',RM ph .st (λb=>(WS b\/RS b)\/XS b) w bd->w'={bd with heap:=bd.heap.push (.cells z.cells t)}->MuAt ph.tM ph.Mu w' 0 0/\WgAt ph.tW ph.Wg w' 0 0/\∃cs,zx ph w' cs)(hK:∀bd w' n,RM ph .st (λb=>(WS b\/RS b)\/XS b) w bd->n=bd.heap.size->w'={bd with heap:=bd.heap.push (.cells z.cells t)}->r9 prog ph F cF csF ⟨.ad 0,k,0,WS,RS,noX,G (b.at (a.put o.dst (.pointer (C ⟨n,0,U⟩))) (.inRegion ops rest::kk)) cs,w'⟩):r9 prog ph F cF csF ⟨.st,k,0,WS,RS,XS,G (b.at a (.inRegion ops (i::rest)::kk)) cs,w⟩:=by
 refine fU (λ_=>rfl) λbd r=>?_;have⟨u,v,y⟩:=f bd _ r rfl;have c:(λb=>WS b\/(b=bd.heap.size/\¬ph.sh b))=WS:=by funext x;apply propext;exact⟨λh=>h.elim id λz=>absurd (z.1▸s bd r) z.2,.inl⟩
 have l:=PQ (ph:=ph) (WS:=WS) (RS:=RS) (EY (main:=E) (rest:=rest) (kk:=kk) (cs:=cs) (w:=bd) m p d j q e);rw[c]at l;exact .est rfl rfl _ _ _ l u v y (hK bd _ _ r rfl rfl)
def Jg{y:aU}{D n:Nat}{J:Array Y}(M:ops[i]?=C o)(N:ar o (yielded ops a.tmps)=E)(m:b.kind≠.early)(K:o.op=.store t x y)(O:a.eval x=.pointer (C ⟨r,D,U⟩))(p:a.eval y=.agg J)(L:WS r)(s:¬ph.sh r)(h:w.heap[r]?=C (.cells c e))(P:(prog.info? t).map (·.size)=C n)(Q:J.size=n)(R:D+n<=c.size)(q:J.all nF=E)(hK:∀I w',RM ph T (λb=>(WS b\/RS b)\/XS b) w I->w'.heap[r]?=C (.cells (c.extract 0 D++J++c.extract (D+n) c.size) e)->(∀k,k≠r->w'.heap[k]?=I.heap[k]?)->w'.heap.size=I.heap.size->r9 prog ph F cF csF ⟨T,k,d,WS,RS,XS,G (b.at (a.put o.dst undef) (.inRegion ops rest::kk)) cs,w'⟩)(S:T≠.st:=by simp):r9 prog ph F cF csF ⟨T,k,d,WS,RS,XS,G (b.at a (.inRegion ops (i::rest)::kk)) cs,w⟩:=by refine fU (λ_=>rfl) λI f=>?_;have⟨w',es,u,g,v,j,l,z,A,B,_⟩:=EZ (main:=E) (rest:=rest) (kk:=kk) (cs:=cs) M N m K O p ((f.1.blk r (.inl (.inl L))).trans h) P Q R q;refine .Ac _ _ _ _ (JA L s u g j l z A B) (λh=>absurd h S) ?_;rw[xq (ko g)];exact hK I w' f v j l
def PY{y:aU}{D:Nat}(L:ops[i]?=C o)(M:ar o (yielded ops a.tmps)=E)(m:b.kind≠.early)(J:o.op=.store t x y)(N:a.eval x=.pointer (C ⟨r,D,U⟩))(n:a.eval y=v)(K:WS r)(s:¬ph.sh r)(h:w.heap[r]?=C (.cells c e))(O:(prog.info? t).map (·.size)=C 1)(P:D<c.size)(p:nF v=E)(hK:∀I w',RM ph T (λb=>(WS b\/RS b)\/XS b) w I->w'.heap[r]?=C (.cells (c.extract 0 D++#[v]++c.extract (D+1) c.size) e)->(∀k,k≠r->w'.heap[k]?=I.heap[k]?)->w'.heap.size=I.heap.size->r9 prog ph F cF csF ⟨T,k,d,WS,RS,XS,G (b.at (a.put o.dst undef) (.inRegion ops rest::kk)) cs,w'⟩)(Q:T≠.st:=by simp):r9 prog ph F cF csF ⟨T,k,d,WS,RS,XS,G (b.at a (.inRegion ops (i::rest)::kk)) cs,w⟩:=by refine fU (λ_=>rfl) λI f=>?_;have⟨w',es,q,g,u,j,l,z,A,B,_⟩:=za8 (main:=E) (rest:=rest) (kk:=kk) (cs:=cs) L M m J N n ((f.1.blk r (.inl (.inl K))).trans h) O P p;refine .Ac _ _ _ _ (JA K s q g j l z A B) (λh=>absurd h Q) ?_;rw[xq (ko g)];exact hK I w' f u j l
def Zw(j:ops[i]?=C o)(l:ar o (yielded ops a.tmps)=E)(c:b.kind≠.early)(h:∀w,(aG a.eval o).run prog w=.ok (.value v) w)(f:∀w,(aG a.eval o).events prog w #[]=#[])(hK:∀g,RM ph T (λb=>(WS b\/RS b)\/XS b) w g->r9 prog ph F cF csF ⟨T,k,d,WS,RS,XS,G (b.at (a.put o.dst v) (.inRegion ops rest::kk)) cs,g⟩):r9 prog ph F cF csF ⟨T,k,d,WS,RS,XS,G (b.at a (.inRegion ops (i::rest)::kk)) cs,w⟩:=by refine fU (λ_=>rfl) λg r=>?_;have e:=tu (main:=E) (rest:=rest) (kk:=kk) (cs:=cs) (w':=g) j l c (by rw[Sem.runT_eq,h,f]);rw[sV]at e;exact .Ac _ _ _ _ (zcb e Y1) (λ_=>rfl) (hK g r)
end
def Jk:∀(a:List Y)(cells:List Y)(o j:Nat),o+j+a.length<=cells.length->((a.zipIdx j).foldl (λ(cs:Array Y)(x:Y×Nat)=>cs.setIfInBounds (o+x.2) x.1) cells.toArray)=(cells.take (o+j)++a++cells.drop (o+j+a.length)).toArray|[],cells,o,j,_=>Y1|v::a,cells,o,j,h=>by simp[aW]at h;simp only[List.zipIdx_cons,List.foldl_cons];have e:cells.toArray.setIfInBounds (o+j) v=(cells.set (o+j) v).toArray:=Y1;rw[e,Jk a _ o (j+1) (by simp;omega)];congr 1;rw[<-Nat.add_assoc,C2 Y0,cW,pq Y0,C3 Y0];simp only[Option.toList_some,fv,List.cons_append,gX,aW];congr 4;omega
def zoE{A B z:Array Y}{n:Nat}{p:Nat->Option (Nat×Nat)}(f:A.size=n)(h:B.size=n)(a:z.size=2*n)(b:p 0=C (0,n))(c:p 1=C (n,n)):ep p z [(0,.agg A),(1,.agg B)]=C (A++B):=by
 have⟨A⟩:=A;have⟨B⟩:=B;have⟨z⟩:=z;simp[lE]at f h a;have e:(List.toArray A).zipIdx.foldl (λ(cs:Array Y)(x:Y×Nat)=>cs.setIfInBounds (0+x.2) x.1) z.toArray=(A++z.drop n).toArray:=by rw[<-iJ,ia,Jk A z 0 0 Y0];simp[f]
 have d:(List.toArray B).zipIdx.foldl (λ(cs:Array Y)(x:Y×Nat)=>cs.setIfInBounds (n+x.2) x.1) (A++z.drop n).toArray=(A++B).toArray:=by rw[<-iJ,ia,Jk B (A++z.drop n) n 0 (by simp;omega)];congr 1;rw[Nat.add_zero,zd f,cK (by simp;omega),eu]
 have g:(nU A.toArray).cells=A.toArray:=rfl;have i:(nU B.toArray).cells=B.toArray:=rfl;unfold ep;simp only[b,g,lE];rw[if_neg (by simp;omega)];unfold ep;simp only[c,i,lE];rw[e,if_neg (by simp;omega),d];simp[ep]
def uBo:prog.underlying 169=C (.array 2 45):=gK
def zBo:((prog.info? 169).bind (·.zero)).map (λz=>z.cells.size)=C 44:=gK
def zLk:((prog.info? 50).bind (·.zero)).map (λz=>z.cells.size)=C 44:=gK
def sLk:(prog.info? 50).map (·.size)=C 44:=gK
def uLk:(prog.underlying 50).any TypeDesc.isRow=E:=gK
def zMu:((prog.info? 168).bind (·.zero)).map (·.cells)=C #[.int .i32 0,.int .u32 0]:=gK
def zWg:((prog.info? 164).bind (·.zero)).map (·.cells)=C #[.int .u64 0,.int .u32 0]:=gK
def zy6:((prog.info? 3).bind (·.zero)).map (·.cells)=C #[.int .i64 0]:=gK
def zul:(prog.info? 3).map (·.size)=C 1:=gK
def fieldsOf(d:Option ej):Array Field:=match d with|some (.struct f)=>f|_=>#[]
def zyP:prog.underlying 50=C (.struct (fieldsOf (prog.underlying 50))):=gK
def zyQ(w:V)(e:Array bB):((fieldsOf (prog.underlying 50)).mapM λf=>do pure (f.offset,<-sizeOf f.type):Sem (Array (Nat×Nat))).runT prog w e=(.ok #[(0,22),(22,22)] w,e):=gK
def zfb{t:ah}{n:Nat}(h:((prog.info? t).bind (·.zero)).map (λz=>z.cells.size)=C n)(w:V)(e:Array bB):∃z:Y,(c9 t).runT prog w e=(.ok z w,e)/\z.cells.size=n:=by have⟨z,a,b⟩:=ak.1 h;have⟨i,c,d⟩:=bH.1 a;refine⟨z,?_,b⟩;unfold c9;rw[cn,Oh c];simp only[d];rfl
section
variable{A B:Array Y}
def zkV(c:A.size=22)(h:B.size=22)(w:V)(e:Array bB):(jj 169 #[(0,.agg A),(1,.agg B)]).runT prog w e=(.ok (.agg (A++B)) w,e):=by have⟨z,a,b⟩:=zfb zBo w e;unfold jj;rw[cn,a];dsimp only;rw[cn,tw uBo];dsimp only;rw[cn,sE sDr];dsimp only;rw[zoE c h b rfl rfl];rfl
def zkY(c:A.size=22)(h:B.size=22)(w:V)(e:Array bB):(jj 50 #[(0,.agg A),(1,.agg B)]).runT prog w e=(.ok (.agg (A++B)) w,e):=by have⟨z,a,b⟩:=zfb zLk w e;unfold jj;rw[cn,a];dsimp only;rw[cn,tw zyP];dsimp only;rw[cn,zyQ];dsimp only;rw[zoE c h b rfl rfl];rfl
def zid(h:A.size=22):(A++B).extract 0 22=A:=by simp_all
def zie(a:A.size=22)(h:B.size=22):(A++B).extract 22 44=B:=by grind
def zeN(a:A.size=22)(h:B.size=22)(w:V)(e:Array bB):(kl 169 (.agg (A++B)) (.int .i64 0)).runT prog w e=(.ok (.agg A) w,e)/\(kl 169 (.agg (A++B)) (.int .i64 1)).runT prog w e=(.ok (.agg B) w,e):=by
 have⟨d,b,r⟩:=Az uDr;constructor
 .unfold kl;simp only[asIntOf];rw[cn];rw[show(pure (aD,(0:Int)):Sem (IntKind×Int)).runT prog w e=(.ok (.i64,0) w,e)from rfl];dsimp only;rw[cn,tw uBo];dsimp only;rw[if_pos Y5,cn,sE sDr];dsimp only;unfold part;rw[cn,Pr b r];simp only[if_true];rw[cn,sE sDr];show(Result.ok (nU ((A++B).extract (0*22) (0*22+22))) w,e)=_;rw[show(0*22+22)=22 from rfl,show 0*22=0 from rfl,zid a]
 .unfold kl;simp only[asIntOf];rw[cn];rw[show(pure (aD,(1:Int)):Sem (IntKind×Int)).runT prog w e=(.ok (.i64,1) w,e)from rfl];dsimp only;rw[cn,tw uBo];dsimp only;rw[if_pos Y5,cn,sE sDr];dsimp only;unfold part;rw[cn,Pr b r];simp only[if_true];rw[cn,sE sDr];show(Result.ok (nU ((A++B).extract (1*22) (1*22+22))) w,e)=_;rw[show(1*22+22)=44 from rfl,show 1*22=22 from rfl,zie a h]
end
section
variable{ph:Ph}{F:Nat->(Nat->Prop)->(Nat->Prop)->V->Prop}{cF:ag}{csF:List ag}{T:MT}{k d:Nat}{WS RS XS:Nat->Prop}{w:V}
variable{b:ag}{a:Act}{ops:Array Oper}{i:Nat}{rest:List Nat}{kk:List mZ}{cs:List ag}{o:Oper}
def Cr{v:Y}(g:ops[i]?=C o)(j:ar o (yielded ops a.tmps)=E)(c:b.kind≠.early)(h:∀w,(aG a.eval o).runT prog w #[]=(.ok (.value v) w,#[]))(hK:∀f,RM ph T (λb=>(WS b\/RS b)\/XS b) w f->r9 prog ph F cF csF ⟨T,k,d,WS,RS,XS,G (b.at (a.put o.dst v) (.inRegion ops rest::kk)) cs,f⟩):r9 prog ph F cF csF ⟨T,k,d,WS,RS,XS,G (b.at a (.inRegion ops (i::rest)::kk)) cs,w⟩:=by refine fU (λ_=>rfl) λf r=>?_;have e:=tu (main:=E) (rest:=rest) (kk:=kk) (cs:=cs) g j c (h f);rw[sV]at e;exact .Ac _ _ _ _ (zcb e Y1) (λ_=>rfl) (hK f r)
end
section
variable{P:al}{o:Oper}{ev:aU->Y}{w:V}{v:Y}
def ZQ{t:ah}{a:Array (Nat×aU)}{c:Array (Nat×Y)}(b:o.op=.build t a)(d:a.map (λp=>(p.1,ev p.2))=c)(h:(jj t c).runT P w #[]=(.ok v w,#[])):(aG ev o).runT P w #[]=(.ok (.value v) w,#[]):=by subst d;unfold aG;simp only[b];rw[cn];erw[h];rfl
def ZR{t:ah}{x y:aU}(a:o.op=.index t x y)(h:(kl t (ev x) (ev y)).runT P w #[]=(.ok v w,#[])):(aG ev o).runT P w #[]=(.ok (.value v) w,#[]):=by unfold aG;simp only[a];rw[cn,h];rfl
end
def Yp{P:al}{main:Bool}{b:ag}{a:Act}{w:V}{cs:List ag}{d:Func}{todo:List mZ}{c:ag}{v:Y}{e:Array bB}(n:b.kind=.normal)(h:a.defers=[])(f:P.funcs[b.fn]?=C d)(r:(results d a.tmps).runT P w #[]=(.ok v w,e)):bg P main (G {b.at a todo with mode:=.returning} (c::cs)) w=.go (G (c.finish v) cs) w (seen P b.fn e):=by simp[Sem.runT_eq,aX]at r;simp[G,bg,unwind,qT,lW,n,h,f,r.1,r.2,bP]
def znH{P:al}{m:Func}{l:Array Y}{a:Tmp}{t:ah}{w:V}{b o n:Nat}{d:ej}{cs:Array Y}{e:ah}{f:Nat×Nat}(r:m.results=#[.cell a t])(p:l.getD a undef=.pointer (C ⟨b,o,U⟩))(h:w.heap[b]?=C (.cells cs e f))(u:P.underlying t=C d)(q:d.isRow=E)(s:(P.info? t).map (·.size)=C n)(z:o+n≤cs.size):∃k,(results m l).runT P w #[]=(.ok (.agg (cs.extract o (o+n))) w,k)∧∀ev∈k,nH b o (o+n) H ev:=by have⟨k,c,g⟩:=zi1 h u q s z;refine⟨k,?_,g⟩;have i:(dx t ⟨b,o,U⟩).runT P w #[]=(.ok (.agg (cs.extract o (o+n))) w,k):=c;unfold results;rw[r,Array.mapM_eq_foldlM,←Array.foldlM_toList];simp only[List.foldlM_cons,List.foldlM_nil];simp only[cn,p,asAddr];have j:∀x:bX,(Functor.map (#[]:Array Y).push (do let y←(pure x:Sem bX);dx t y):Sem (Array Y))=(dx t x>>=fun v=>pure ((#[]:Array Y).push v)):=fun _=>rfl;rw[j,cn,i];rfl
section
variable{ph:Ph}{F:Nat->(Nat->Prop)->(Nat->Prop)->V->Prop}{cF:ag}{csF:List ag}{T:MT}{k d:Nat}{WS RS XS:Nat->Prop}{w w0 w':V}
variable{b:ag}{a:Act}
variable{r:Nat}
def zfF{A:Func}{u:List mZ}{c:ag}{cs:List ag}{x:Tmp}{t:ah}{o n:Nat}{j:ej}{y:Array Y}{e:ah}{f:Nat×Nat}(D:b.kind=.normal)(I:a.defers=[])(p:prog.funcs[b.fn]?=C A)(J:A.results=#[.cell x t])(K:a.tmps.getD x undef=.pointer (C ⟨r,o,U⟩))(B:WS r\/RS r)(h:w.heap[r]?=C (.cells y e f))(L:prog.underlying t=C j)(g:j.isRow=E)(M:(prog.info? t).map (·.size)=C n)(z:o+n<=y.size)(hK:∀v,RM ph T (λb=>(WS b\/RS b)\/XS b) w v->r9 prog ph F cF csF ⟨T,k,d,WS,RS,XS,G (c.finish (.agg (y.extract o (o+n)))) cs,v⟩)(N:T≠.st:=by simp):r9 prog ph F cF csF ⟨T,k,d,WS,RS,XS,G {b.at a u with mode:=.returning} (c::cs),w⟩:=by refine fU (λ_=>rfl) λv l=>?_;have⟨O,q,s⟩:=znH J K ((l.1.blk r (.inl B)).trans h) L g M z;have m:∀ev∈seen prog b.fn O,nH r o (o+n) H ev:=λev i=>s ev (mem_seen i);refine .Ac _ _ _ _ (G0 B (Yp (main:=E) (cs:=cs) (todo:=u) (c:=c) D I p q) m) (λh=>absurd h N) ?_;rw[xq (ko m)];exact hK v l
def sT{o a:Obj}(h:w.heap[r]?=C o):(w.heap.push a)[r]?=C o:=by grind
def KX.push{o:Obj}{m:Nat}(h:KX ph 2 (λb=>(WS b\/RS b)\/XS b) w0 w)(e:w'={w with heap:=w.heap.push o}):KX ph 2 (λb=>((WS b\/(b=m/\¬ph.sh b))\/RS b)\/XS b) w' w':=by
 subst e;refine⟨h.ok,λb a=>?_,fF.refl _ _,zi3 h.l⟩;rcases a with((a|a)|a)|a;.exact h.st b (.inl (.inl a))
 .exact a.2
 .exact h.st b (.inl (.inr a))
 .exact h.st b (.inr a)
def KX.stored{St:Nat->Prop}(h:KX ph 2 St w0 w)(c:¬ph.sh r)(e:∀k,k≠r->w'.heap[k]?=w.heap[k]?):KX ph 2 St w' w':=⟨h.ok,h.st,fF.refl _ _,h.l.same λb a=>e b λx=>c (x▸a)⟩
end
section
variable{ph:Ph}{F:Nat->(Nat->Prop)->(Nat->Prop)->V->Prop}{cF:ag}{csF:List ag}{k:Nat}{WS RS XS:Nat->Prop}{w0 w:V}
variable{uS:ag}{mP:Act}{gL:Array Oper}{CW:Nat}{lC:List Nat}{FU:List mZ}{cs:List ag}{o:Oper}
def zee(l:ph.tW=164){j:Nat}{args:Array aU}{x:Array ah}(y:gL[CW]?=C o)(I:ar o (yielded gL mP.tmps)=E)(g:uS.kind≠.early)(u:o.op=.call {callee:=.value (.func 125),args:=args,argTypes:=x})(J:args.map mP.eval=#[.pointer (C ⟨ph.Wg,0,U⟩),.int .i64 1])(hK:∀w,KX ph 2 (λb=>(WS b\/RS b)\/XS b) w0 w->r9 prog ph F cF csF ⟨.go j,k,0,WS,RS,XS,G (uS.at (mP.put o.dst (.tuple #[])) (.inRegion gL lC::FU)) cs,w⟩)(hF:KX ph 2 (λb=>(WS b\/RS b)\/XS b) w0 w):r9 prog ph F cF csF ⟨.ad j,k,0,WS,RS,XS,G (uS.at mP (.inRegion gL (CW::lC)::FU)) cs,w⟩:=by
 have p:mP.put o.dst (.tuple #[])=mP.put ((gL[CW]?).bind (·.dst)) (.tuple #[]):=by rw[y];rfl
 rw[p]at hK;refine bL Y1 (m:=61) ?_;refine nS rfl (λK i=>?_);replace hF:=hF.rely i;clear i;rw[pV y I g u func125 zi9 rfl];simp only[qx];refine⟨by u_nil,?_⟩;rw[J,enter_at _ func125 rfl];clear y I g u J p;walk_nrmf f125;repeat w_go KX.rely
 refine ba (λ_ r=>?_);replace hF:=KX.rely hF r;clear r;refine vK (d':=1) rfl (λd c=>⟨_,e7 .disable Y1 rfl rfl Y4 rfl ck.f_disable (vt az) (vp az) (vu az) (vq az),?_⟩) ZN rfl;replace hF:=KX.rely hF c;clear c;refine bL Y1 (m:=90) ?_;walk_nrm;repeat w_go KX.rely
 u_defer KX.rely hF;repeat w_go KX.rely
 u_in KX.rely hF;rw[stepG_entry_pure (.bool H) rfl rfl Y4 rfl ck.f_inBubble (x_inBubble_n az) (x_inBubble_b az) (x_inBubble_x az) (x_inBubble_f az)];simp only[qx];refine⟨by u_nil,?_⟩;walk_nrm;repeat w_go KX.rely
 u_call func155 zeG f155 KX.rely hF;repeat w_go KX.rely
 m_num;refine ba (λ_ r=>?_);replace hF:=KX.rely hF r;clear r;refine fU (λ_=>rfl) λd c=>?_;replace hF:=KX.rely hF c.1;clear c;refine .ad j rfl λv L h=>?_;have f:v=0\/v=1:=Y0;rcases f with rfl|rfl;.
  replace h:WgAt ph.tW ph.Wg d 0 0:=by simpa[KK]using h
  have e:nY.wrap (0+4294967296)=4294967296:=Y5;have z:(((0+1:Nat):Int))*KK=4294967296:=by simp[KK]
  rw[z];refine⟨_,_,_,Cn rfl ((gd rfl rfl Y4 rfl ck.f_addU64 (x_addU64_n az) (x_addU64_b az) (x_addU64_x az) .u64 (x_addU64_f az) rfl rfl h.cellSt (h.thaw 0)).trans (by rw[e];rfl)) Oe,h.setSt _,?_⟩;replace hF:=hF.Ln (a:=stA ph.Wg) (v:=.int .u64 4294967296) rfl (h.setSt _);show r9 prog ph F cF csF ⟨.go j,k,1,WS,RS,XS,_,_⟩;refine bL Y1 (m:=140) ?_;walk_nrm;try simp only[e]
  repeat w_go KX.rely
  u_leave1 func155 KX.rely hF;repeat w_go KX.rely
  m_convG prog ck.underlying_tUP ck.underlying_tPU32 ck.room_tU32 hF.ws.choose_spec KX.rely hF;refine ba (λ_ r=>?_);replace hF:=KX.rely hF r;clear r;refine vK (d':=1) rfl (λd c=>⟨_,fu .read Y1 rfl rfl Y4 rfl ck.f_raceRead (x_raceRead_n az) (x_raceRead_b az) (x_raceRead_x az) (x_raceRead_f az) (ad:=⟨ph.Wg,1,U⟩) (by simp[a8]),?_⟩) (Jj _ rfl).1 rfl;replace hF:=KX.rely hF c;clear c;refine bL Y1 (m:=140) ?_;walk_nrm;repeat w_go KX.rely
  refine ba (λ_ r=>?_);replace hF:=KX.rely hF r;clear r;refine vK (d':=0) rfl (λd c=>⟨_,stepG_unwind_entry (v:=.tuple #[]) (evs:=#[mk .enable]) rfl ck.f_enable (jA az) (jy az) (jB az) (jz az) (by simp[Extern.Race.none_]) (by simp[mk]) (by simp[mk]),?_⟩) Gg rfl;replace hF:=KX.rely hF c;clear c;refine bL Y1 (m:=20) ?_;walk_nrm;u_leave0 func125 KX.rely hF;exact ba (λ_ r=>hK _ (KX.rely hF r))
 .replace h:WgAt ph.tW ph.Wg d 4294967296 0:=by simpa[KK]using h
  have e:nY.wrap (4294967296+4294967296)=8589934592:=Y5;have q:bits .and .u64 8589934592 2147483648=0:=Y5;have s:bits .and .u64 8589934592 2147483647=0:=Y5;have z:(((1+1:Nat):Int))*KK=8589934592:=by simp[KK]
  rw[z];refine⟨_,_,_,Cn rfl ((gd rfl rfl Y4 rfl ck.f_addU64 (x_addU64_n az) (x_addU64_b az) (x_addU64_x az) .u64 (x_addU64_f az) rfl rfl h.cellSt (h.thaw 0)).trans (by rw[e];rfl)) Oe,h.setSt _,?_⟩;replace hF:=hF.Ln (a:=stA ph.Wg) (v:=.int .u64 8589934592) rfl (h.setSt _);show r9 prog ph F cF csF ⟨.go j,k,1,WS,RS,XS,_,_⟩;refine bL Y1 (m:=140) ?_;walk_nrm;try simp only[e]
  repeat w_go KX.rely
  u_leave1 func155 KX.rely hF;repeat w_go KX.rely
  refine ba (λ_ r=>?_);replace hF:=KX.rely hF r;clear r;refine vK (d':=0) rfl (λd c=>⟨_,stepG_unwind_entry (v:=.tuple #[]) (evs:=#[mk .enable]) rfl ck.f_enable (jA az) (jy az) (jB az) (jz az) (by simp[Extern.Race.none_]) (by simp[mk]) (by simp[mk]),?_⟩) Gg rfl;replace hF:=KX.rely hF c;clear c;refine bL Y1 (m:=20) ?_;walk_nrm;u_leave0 func125 KX.rely hF;exact ba (λ_ r=>hK _ (KX.rely hF r))
end
def xu:Code->Option Code
 |.loop c=>C c|.seq x y=>match xu x with|some c=>C c|none=>xu y
 |.block _ c=>xu c|_=>U
noncomputable def ziK:Code:=f131.body.getD .skip
noncomputable def LWt:Code:=(xu ziK).getD .skip
section
variable{ph:Ph}{F:Nat->(Nat->Prop)->(Nat->Prop)->V->Prop}{cF:ag}{csF:List ag}{WS RS XS:Nat->Prop}{w0:V}
variable{uS:ag}{mP:Act}{gL:Array Oper}{CW:Nat}{lC:List Nat}{FU:List mZ}{cs:List ag}{o:Oper}
def zq5(ph:Ph)(F:Nat->(Nat->Prop)->(Nat->Prop)->V->Prop)(cF:ag)(csF:List ag)(WS RS XS:Nat->Prop)(w0:V)(c:ag)(cs:List ag)(k:Nat):Prop:=∀(j1 j2 j3 j4 j5 j6 j7 j8 j9 j10 j a d e f g h i l m n o p q r s t u v x y z A B Q0 D Q1 Q2 I J K L M N O P Q R S T Q3 Q4 W X Q5 Z j57 j58 j59 j60 j61 j62 j63 j64 j65 j66 j67 j68 j69 j70 j71 j72 j73 j74 j75 j76 j77 j78 j79 j80 j81 j82 j83:Y)(w:V),KX ph 2 (λb=>(WS b\/RS b)\/XS b) w0 w->r9 prog ph F cF csF ⟨.w1,k,1,WS,RS,XS,G ((Go.Conc.base 131).at ⟨#[.pointer (C ⟨ph.Wg,0,U⟩),j1,j2,j3,j4,j5,j6,j7,j8,j9,j10,j,a,d,e,f,g,h,i,l,m,n,o,p,q,r,s,t,u,v,x,y,z,A,B,Q0,D,Q1,Q2,I,J,K,L,M,N,O,P,Q,R,S,T,Q3,Q4,W,X,Q5,Z,j57,j58,j59,j60,j61,j62,j63,j64,j65,j66,j67,j68,j69,j70,j71,j72,j73,j74,j75,j76,j77,j78,j79,j80,j81,j82,j83],[]⟩ [.code LWt,.inLoop LWt,.inBlock 0]) (c::cs),w⟩
def zd8(ph:Ph)(F:Nat->(Nat->Prop)->(Nat->Prop)->V->Prop)(cF:ag)(csF:List ag)(WS XS:Nat->Prop)(w0:V)(g:av):Prop:=∀(k:Nat)(w:V)(c iR:Array Y),c.size=ph.d->iR.size=ph.d->(c++iR).all nF=E->zx ph w (c++iR)->(∀b,WS b->w.heap[b]?=w0.heap[b]?)->r9 prog ph F cF csF ⟨.fin c iR,k,0,WS,λb=>b=ph.Bo,XS,g,w⟩
def zlp(Q0:zd8 ph F cF csF WS XS w0 (G (uS.at (mP.put ((gL[CW]?).bind (·.dst)) (.tuple #[])) (.inRegion gL lC::FU)) cs)):∀k,zq5 ph F cF csF WS RS XS w0 (uS.at mP (.inRegion gL (CW::lC)::FU)) cs k:=by intro k;induction k with|zero=>exactλj1 j2 j3 j4 j5 j6 j7 j8 j9 j10 B D I J K O P Q R S Q1 Q2 W X Q3 Z j27 j28 j29 j30 j31 j32 j33 j34 j35 j36 j37 j38 j39 j40 j41 j42 j43 j44 j45 j46 j47 j48 j49 j50 j51 j52 j53 j54 j55 j56 j57 j58 j59 j60 j61 j62 j63 j64 j65 j66 j67 j68 j69 j70 j71 j72 j73 j74 j75 j76 j77 j78 j79 j80 j81 j82 j83 w _=>fU (λh=>absurd rfl h) λbd _=>.deep rfl|succ k ih=>
 refineλj1 j2 j3 j4 j5 j6 j7 j8 j9 j10 B D I J K O P Q R S Q1 Q2 W X Q3 Z j27 j28 j29 j30 j31 j32 j33 j34 j35 j36 j37 j38 j39 j40 j41 j42 j43 j44 j45 j46 j47 j48 j49 j50 j51 j52 j53 j54 j55 j56 j57 j58 j59 j60 j61 j62 j63 j64 j65 j66 j67 j68 j69 j70 j71 j72 j73 j74 j75 j76 j77 j78 j79 j80 j81 j82 j83 w hF=>?_;refine bL Y1 (m:=60) ?_;simp only[LWt,ziK,xu,f131,db];repeat w_go KX.rely
 u_call func157 GQ f157 KX.rely hF;repeat w_go KX.rely
 refine ba (λ_ d=>?_);replace hF:=KX.rely hF d;clear d;refine fU (λ_=>rfl) λo j=>?_;replace hF:=KX.rely hF j.1;clear j;refine .w1 rfl λv hv c=>?_;have hv':v=0\/v=1\/v=2:=Y0;rcases hv' with rfl|rfl|rfl;.
  replace c:WgAt ph.tW ph.Wg o 0 0:=by simpa[KK]using c
  refine⟨_,_,pW (js rfl rfl Y4 rfl ck.f_loadU64 (rF az) (rD az) (rG az) .u64 (rE az) rfl c.cellSt) x3,?_⟩;show r9 prog ph F cF csF ⟨.aq,k+1,1,WS,RS,XS,_,_⟩;clear c;refine bL Y1 (m:=60) ?_;walk_nrm;repeat w_go KX.rely
  u_leave1 func157 KX.rely hF;repeat w_go KX.rely
  refine ba (λ_ d=>?_);replace hF:=KX.rely hF d;clear d;refine vK (d':=0) rfl (λeU f=>⟨_,e7 .enable Y1 rfl rfl Y4 rfl ck.f_enable (jA az) (jy az) (jB az) (jz az),?_⟩) Gg rfl;replace hF:=KX.rely hF f;clear f;refine bL Y1 (m:=40) ?_;walk_nrm;repeat w_go KX.rely
  m_convG prog ck.underlying_tUP ck.underlying_tWgP ck.room_tWg hF.wg.choose_spec KX.rely hF;refine ba (λ_ d=>?_);replace hF:=KX.rely hF d;clear d;refine fU (λ_=>rfl) λeU f=>?_;replace hF:=KX.rely hF f.1;have s:∀b,WS b->eU.heap[b]?=w0.heap[b]?:=λb i=>hF.r.blk b (.inl (.inl i));clear hF f;refine .aq rfl rfl _ (fu .acquire Y1 rfl rfl Y4 rfl ck.f_acquire (og az) (od az) (oh az) (oe az) (by simp[a8,stA])) λmi iR p q t l=>?_;have hF:fF ph 2 (λb=>(WS b\/b=ph.Bo)\/XS b) eU eU:=fF.refl _ _;refine bL Y1 (m:=60) ?_;walk_nrm;repeat w_go fF.trans
  u_leave0 func131 fF.trans hF;exact ba λw r=>Q0 (k+1) w mi iR p q t ⟨((fF.trans hF r).blk _ (.inl (.inr rfl))).trans l.1,l.2⟩ λb i=>((fF.trans hF r).blk b (.inl (.inl i))).trans (s b i)
 .replace c:WgAt ph.tW ph.Wg o 4294967296 0:=by simpa[KK]using c
  refine⟨_,_,pW (js rfl rfl Y4 rfl ck.f_loadU64 (rF az) (rD az) (rG az) .u64 (rE az) rfl c.cellSt) x3,?_⟩;show r9 prog ph F cF csF ⟨.w2 1,k+1,1,WS,RS,XS,_,_⟩;clear c;refine bL Y1 (m:=140) ?_;walk_nrm;repeat w_go KX.rely
  u_leave1 func157 KX.rely hF;repeat w_go KX.rely
  u_call func170 zeH f170 KX.rely hF;repeat w_go KX.rely
  m_num;refine ba (λ_ d=>?_);replace hF:=KX.rely hF d;clear d;refine fU (λ_=>rfl) λeU f=>?_;replace hF:=KX.rely hF f.1;clear f;refine .w2 1 rfl λu hu c=>⟨λe=>?_,λe=>?_⟩;.
   subst e;replace c:WgAt ph.tW ph.Wg eU 4294967296 0:=by simpa[KK]using c
   have z:((1:Nat):Int)*KK+1=4294967297:=by simp[KK]
   rw[z];refine⟨_,_,_,Cn rfl (ir rfl rfl Y4 rfl ck.f_casU64 (x_casU64_n az) (x_casU64_b az) (x_casU64_x az) .u64 (x_casU64_f az) rfl rfl rfl c.cellSt (c.thaw 0)) Oe,c.setSt _,?_⟩;show r9 prog ph F cF csF ⟨.w3,k+1,1,WS,RS,XS,_,_⟩;replace hF:=hF.Ln (a:=stA ph.Wg) (v:=.int .u64 4294967297) rfl (c.setSt _);clear c;refine bL Y1 (m:=140) ?_;walk_nrm;repeat w_go KX.rely
   u_leave1 func170 KX.rely hF;repeat w_go KX.rely
   m_convG prog ck.underlying_tUP ck.underlying_tPU32 ck.room_tU32 hF.ws.choose_spec KX.rely hF;refine ba (λ_ d=>?_);replace hF:=KX.rely hF d;clear d;refine vK (d':=1) rfl (λo j=>⟨_,fu .write Y1 rfl rfl Y4 rfl ck.f_raceWrite (x_raceWrite_n az) (x_raceWrite_b az) (x_raceWrite_x az) (x_raceWrite_f az) (ad:=⟨ph.Wg,1,U⟩) (by simp[a8]),?_⟩) (Jj _ rfl).2 rfl;replace hF:=KX.rely hF j;clear j;refine bL Y1 (m:=100) ?_;walk_nrm;repeat w_go KX.rely
   refine ba (λ_ d=>?_);replace hF:=KX.rely hF d;clear d;refine fU (λ_=>rfl) λzmA y=>?_;replace hF:=KX.rely hF y.1;clear y;refine .w3 rfl rfl (λ⟨x,c⟩=>ly rfl rfl rfl ck.f_semacquire (uq az) (um az) (uu az) (uo az) (by simp[a8,smA]) c.cellSm) λc=>?_;refine⟨_,_,_,Cn rfl (qt rfl rfl Y4 rfl ck.f_semacquire (uq az) (um az) (uu az) (uo az) (by simp[a8,smA]) c.cellSm Y5 (c.thaw 1)) ZO,c.setSm _,?_⟩;show r9 prog ph F cF csF ⟨.w4,k+1,1,WS,RS,XS,_,_⟩;replace hF:=hF.Ln (a:=smA ph.Wg) (v:=.int .u32 (1-1)) rfl (c.setSm _);clear c;refine bL Y1 (m:=100) ?_;walk_nrm;repeat w_go KX.rely
   u_call func157 GQ f157 KX.rely hF;repeat w_go KX.rely
   refine ba (λ_ d=>?_);replace hF:=KX.rely hF d;clear d;refine fU (λ_=>rfl) λkH A=>?_;replace hF:=KX.rely hF A.1;clear A;refine .w4 rfl λc=>⟨_,_,pW (js rfl rfl Y4 rfl ck.f_loadU64 (rF az) (rD az) (rG az) .u64 (rE az) rfl c.cellSt) x3,?_⟩;show r9 prog ph F cF csF ⟨.aq,k+1,1,WS,RS,XS,_,_⟩;clear c;refine bL Y1 (m:=100) ?_;walk_nrm;repeat w_go KX.rely
   u_leave1 func157 KX.rely hF;repeat w_go KX.rely
   refine ba (λ_ d=>?_);replace hF:=KX.rely hF d;clear d;refine vK (d':=0) rfl (λeU f=>⟨_,e7 .enable Y1 rfl rfl Y4 rfl ck.f_enable (jA az) (jy az) (jB az) (jz az),?_⟩) Gg rfl;replace hF:=KX.rely hF f;clear f;refine bL Y1 (m:=40) ?_;walk_nrm;repeat w_go KX.rely
   m_convG prog ck.underlying_tUP ck.underlying_tWgP ck.room_tWg hF.wg.choose_spec KX.rely hF;refine ba (λ_ d=>?_);replace hF:=KX.rely hF d;clear d;refine fU (λ_=>rfl) λeU f=>?_;replace hF:=KX.rely hF f.1;have s:∀b,WS b->eU.heap[b]?=w0.heap[b]?:=λb i=>hF.r.blk b (.inl (.inl i));clear hF f;refine .aq rfl rfl _ (fu .acquire Y1 rfl rfl Y4 rfl ck.f_acquire (og az) (od az) (oh az) (oe az) (by simp[a8,stA])) λmi iR p q t l=>?_;have hF:fF ph 2 (λb=>(WS b\/b=ph.Bo)\/XS b) eU eU:=fF.refl _ _;refine bL Y1 (m:=60) ?_;walk_nrm;repeat w_go fF.trans
   u_leave0 func131 fF.trans hF;exact ba λw r=>Q0 (k+1) w mi iR p q t ⟨((fF.trans hF r).blk _ (.inl (.inr rfl))).trans l.1,l.2⟩ λb i=>((fF.trans hF r).blk b (.inl (.inl i))).trans (s b i)
  .have n:(u:Int)*KK≠4294967296:=by simp only[KK];omega
   refine⟨_,_,pW (pj rfl rfl Y4 rfl ck.f_casU64 (x_casU64_n az) (x_casU64_b az) (x_casU64_x az) .u64 (x_casU64_f az) rfl rfl rfl c.cellSt (c.thaw 0) n) x3,?_⟩;show r9 prog ph F cF csF ⟨.w1,k,1,WS,RS,XS,_,_⟩;clear c n;refine bL Y1 (m:=60) ?_;walk_nrm;repeat w_nl KX.rely
   u_leave1 func170 KX.rely hF;repeat w_nl KX.rely
   u_c stepG_inLoop KX.rely hF;exact ba λ_ r=>ih _ _ _ _ _ _ _ _ _ _ _ _ _ _ _ _ _ _ _ _ _ _ _ _ _ _ _ _ _ _ _ _ _ _ _ _ _ _ _ _ _ _ _ _ _ _ _ _ _ _ _ _ _ _ _ _ _ _ _ _ _ _ _ _ _ _ _ _ _ _ _ _ _ _ _ _ _ _ _ _ _ _ _ _ (KX.rely hF r)
 .replace c:WgAt ph.tW ph.Wg o 8589934592 0:=by simpa[KK]using c
  refine⟨_,_,pW (js rfl rfl Y4 rfl ck.f_loadU64 (rF az) (rD az) (rG az) .u64 (rE az) rfl c.cellSt) x3,?_⟩;show r9 prog ph F cF csF ⟨.w2 2,k+1,1,WS,RS,XS,_,_⟩;clear c;refine bL Y1 (m:=140) ?_;walk_nrm;repeat w_go KX.rely
  u_leave1 func157 KX.rely hF;repeat w_go KX.rely
  u_call func170 zeH f170 KX.rely hF;repeat w_go KX.rely
  m_num;refine ba (λ_ d=>?_);replace hF:=KX.rely hF d;clear d;refine fU (λ_=>rfl) λeU f=>?_;replace hF:=KX.rely hF f.1;clear f;refine .w2 2 rfl λu hu c=>⟨λe=>?_,λe=>?_⟩;.
   subst e;replace c:WgAt ph.tW ph.Wg eU 8589934592 0:=by simpa[KK]using c
   have z:((2:Nat):Int)*KK+1=8589934593:=by simp[KK]
   rw[z];refine⟨_,_,_,Cn rfl (ir rfl rfl Y4 rfl ck.f_casU64 (x_casU64_n az) (x_casU64_b az) (x_casU64_x az) .u64 (x_casU64_f az) rfl rfl rfl c.cellSt (c.thaw 0)) Oe,c.setSt _,?_⟩;show r9 prog ph F cF csF ⟨.w3,k+1,1,WS,RS,XS,_,_⟩;replace hF:=hF.Ln (a:=stA ph.Wg) (v:=.int .u64 8589934593) rfl (c.setSt _);clear c;refine bL Y1 (m:=140) ?_;walk_nrm;repeat w_go KX.rely
   u_leave1 func170 KX.rely hF;repeat w_go KX.rely
   m_convG prog ck.underlying_tUP ck.underlying_tPU32 ck.room_tU32 hF.ws.choose_spec KX.rely hF;refine ba (λ_ d=>?_);replace hF:=KX.rely hF d;clear d;refine vK (d':=1) rfl (λo j=>⟨_,fu .write Y1 rfl rfl Y4 rfl ck.f_raceWrite (x_raceWrite_n az) (x_raceWrite_b az) (x_raceWrite_x az) (x_raceWrite_f az) (ad:=⟨ph.Wg,1,U⟩) (by simp[a8]),?_⟩) (Jj _ rfl).2 rfl;replace hF:=KX.rely hF j;clear j;refine bL Y1 (m:=100) ?_;walk_nrm;repeat w_go KX.rely
   refine ba (λ_ d=>?_);replace hF:=KX.rely hF d;clear d;refine fU (λ_=>rfl) λzmA y=>?_;replace hF:=KX.rely hF y.1;clear y;refine .w3 rfl rfl (λ⟨x,c⟩=>ly rfl rfl rfl ck.f_semacquire (uq az) (um az) (uu az) (uo az) (by simp[a8,smA]) c.cellSm) λc=>?_;refine⟨_,_,_,Cn rfl (qt rfl rfl Y4 rfl ck.f_semacquire (uq az) (um az) (uu az) (uo az) (by simp[a8,smA]) c.cellSm Y5 (c.thaw 1)) ZO,c.setSm _,?_⟩;show r9 prog ph F cF csF ⟨.w4,k+1,1,WS,RS,XS,_,_⟩;replace hF:=hF.Ln (a:=smA ph.Wg) (v:=.int .u32 (1-1)) rfl (c.setSm _);clear c;refine bL Y1 (m:=100) ?_;walk_nrm;repeat w_go KX.rely
   u_call func157 GQ f157 KX.rely hF;repeat w_go KX.rely
   refine ba (λ_ d=>?_);replace hF:=KX.rely hF d;clear d;refine fU (λ_=>rfl) λkH A=>?_;replace hF:=KX.rely hF A.1;clear A;refine .w4 rfl λc=>⟨_,_,pW (js rfl rfl Y4 rfl ck.f_loadU64 (rF az) (rD az) (rG az) .u64 (rE az) rfl c.cellSt) x3,?_⟩;show r9 prog ph F cF csF ⟨.aq,k+1,1,WS,RS,XS,_,_⟩;clear c;refine bL Y1 (m:=100) ?_;walk_nrm;repeat w_go KX.rely
   u_leave1 func157 KX.rely hF;repeat w_go KX.rely
   refine ba (λ_ d=>?_);replace hF:=KX.rely hF d;clear d;refine vK (d':=0) rfl (λeU f=>⟨_,e7 .enable Y1 rfl rfl Y4 rfl ck.f_enable (jA az) (jy az) (jB az) (jz az),?_⟩) Gg rfl;replace hF:=KX.rely hF f;clear f;refine bL Y1 (m:=40) ?_;walk_nrm;repeat w_go KX.rely
   m_convG prog ck.underlying_tUP ck.underlying_tWgP ck.room_tWg hF.wg.choose_spec KX.rely hF;refine ba (λ_ d=>?_);replace hF:=KX.rely hF d;clear d;refine fU (λ_=>rfl) λeU f=>?_;replace hF:=KX.rely hF f.1;have s:∀b,WS b->eU.heap[b]?=w0.heap[b]?:=λb i=>hF.r.blk b (.inl (.inl i));clear hF f;refine .aq rfl rfl _ (fu .acquire Y1 rfl rfl Y4 rfl ck.f_acquire (og az) (od az) (oh az) (oe az) (by simp[a8,stA])) λmi iR p q t l=>?_;have hF:fF ph 2 (λb=>(WS b\/b=ph.Bo)\/XS b) eU eU:=fF.refl _ _;refine bL Y1 (m:=60) ?_;walk_nrm;repeat w_go fF.trans
   u_leave0 func131 fF.trans hF;exact ba λw r=>Q0 (k+1) w mi iR p q t ⟨((fF.trans hF r).blk _ (.inl (.inr rfl))).trans l.1,l.2⟩ λb i=>((fF.trans hF r).blk b (.inl (.inl i))).trans (s b i)
  .have n:(u:Int)*KK≠8589934592:=by simp only[KK];omega
   refine⟨_,_,pW (pj rfl rfl Y4 rfl ck.f_casU64 (x_casU64_n az) (x_casU64_b az) (x_casU64_x az) .u64 (x_casU64_f az) rfl rfl rfl c.cellSt (c.thaw 0) n) x3,?_⟩;show r9 prog ph F cF csF ⟨.w1,k,1,WS,RS,XS,_,_⟩;clear c n;refine bL Y1 (m:=60) ?_;walk_nrm;repeat w_nl KX.rely
   u_leave1 func170 KX.rely hF;repeat w_nl KX.rely
   u_c stepG_inLoop KX.rely hF;exact ba λ_ r=>ih _ _ _ _ _ _ _ _ _ _ _ _ _ _ _ _ _ _ _ _ _ _ _ _ _ _ _ _ _ _ _ _ _ _ _ _ _ _ _ _ _ _ _ _ _ _ _ _ _ _ _ _ _ _ _ _ _ _ _ _ _ _ _ _ _ _ _ _ _ _ _ _ _ _ _ _ _ _ _ _ _ _ _ _ (KX.rely hF r)
def zjB{args:Array aU}{j:Array ah}(l:gL[CW]?=C o)(n:ar o (yielded gL mP.tmps)=E)(h:uS.kind≠.early)(i:o.op=.call {callee:=.value (.func 131),args:=args,argTypes:=j})(x:args.map mP.eval=#[.pointer (C ⟨ph.Wg,0,U⟩)])(f:zd8 ph F cF csF WS XS w0 (G (uS.at (mP.put o.dst (.tuple #[])) (.inRegion gL lC::FU)) cs))(k:Nat){w:V}(hF:KX ph 2 (λb=>(WS b\/RS b)\/XS b) w0 w):r9 prog ph F cF csF ⟨.w1,k,0,WS,RS,XS,G (uS.at mP (.inRegion gL (CW::lC)::FU)) cs,w⟩:=by
 have p:mP.put o.dst (.tuple #[])=mP.put ((gL[CW]?).bind (·.dst)) (.tuple #[]):=by rw[l];rfl
 rw[p]at f;have g:=zlp (RS:=RS) (w0:=w0) f k;refine bL Y1 (m:=61) ?_;refine nS rfl (λq a=>?_);replace hF:=hF.rely a;clear a;rw[pV l n h i func131 zns rfl];simp only[qx];refine⟨by u_nil,?_⟩;rw[x,enter_at _ func131 rfl];clear l n h i x p f;walk_nrmf f131;repeat w_bar KX.rely
 refine ba (λ_ c=>?_);replace hF:=KX.rely hF c;clear c;refine vK (d':=1) rfl (λe d=>⟨_,e7 .disable Y1 rfl rfl Y4 rfl ck.f_disable (vt az) (vp az) (vu az) (vq az),?_⟩) ZN rfl;replace hF:=KX.rely hF d;clear d;refine bL Y1 (m:=30) ?_;walk_nrm;repeat w_bar KX.rely
 u_c stepG_loop KX.rely hF;exact ba λ_ r=>g _ _ _ _ _ _ _ _ _ _ _ _ _ _ _ _ _ _ _ _ _ _ _ _ _ _ _ _ _ _ _ _ _ _ _ _ _ _ _ _ _ _ _ _ _ _ _ _ _ _ _ _ _ _ _ _ _ _ _ _ _ _ _ _ _ _ _ _ _ _ _ _ _ _ _ _ _ _ _ _ _ _ _ _ (KX.rely hF r)
end
def c8(n:Nat):Ph:=⟨n+3,n+2,n+4,168,164,169,22⟩
def Cj(n:Nat):(c8 n).Ok:=⟨by simp[c8],by simp[c8],by simp[c8]⟩
def Ez{n b:Nat}:(c8 n).sh b↔b=n+2\/b=n+3\/b=n+4:=by grind[Ph.sh,c8]
def F2(N:al)(w0:V)(R0:BR)(p:Ph)(mi iR:Array Y)(i:Nat):(Nat->Prop)->(Nat->Prop)->V->Prop:=FW N (aF N 128 #[.agg (if i=0 then mi else iR)] .normal) w0 R0 p i
def WI(l zl zb:Array Y):Nat->Obj|0=>.cells l 50|1=>.cells zl 50|2=>.cells #[.int .u64 0,.int .u32 0] 164|3=>.cells #[.int .i32 0,.int .u32 0] 168|_=>.cells zb 169
structure SF(n:Nat)(W:V)(R0:BR)(l zl zb:Array Y)(j:Nat)(w:V):Prop where
 size:w.heap.size=n+j
 old:∀b,(∃a l,R0 a b l)->w.heap[b]?=W.heap[b]?
 new:∀i,i<j->w.heap[n+i]?=C (WI l zl zb i)
section
variable{n j:Nat}{W w bd w':V}{R0:BR}{l zl zb:Array Y}{St:Nat->Prop}
def SF.rely(h:SF n W R0 l zl zb j w)(S:∀b,(∃a l,R0 a b l)->St b)(N:∀i,i<j->St (n+i))(r:RM (c8 n) .st St w bd):SF n W R0 l zl zb j bd:=⟨(r.2 rfl).trans h.size,λb c=>(r.1.blk b (S b c)).trans (h.old b c),λi d=>(r.1.blk _ (N i d)).trans (h.new i d)⟩
def SF.push(h:SF n W R0 l zl zb j w)(R:∀b,(∃a l,R0 a b l)->b<n){o:Obj}(d:o=WI l zl zb j)(e:w'={w with heap:=w.heap.push o}):SF n W R0 l zl zb (j+1) w':=by
 subst e d;have s:=h.size;refine⟨Y8,λb c=>?_,λi f=>?_⟩;.have:=R b c;rw[bx,if_neg Y0];exact h.old b c
 .rw[bx];by_cases e:i=j;.simp_all
  .rw[if_neg Y0];exact h.new i Y0
end
section
variable{N:al}{cF:ag}{csF:List ag}{w0 W:V}{R0:BR}{mi iR zz zC:Array Y}
def za7(g:PG N prog)(gp:GP N)(hf:∃fn,N.funcs[128]?=C fn/\fn.body.isSome=E)(hTA:fG N (λ_ _ _ _=>False) Lb (aF N 128 #[.agg mi] .normal) [] (UK w0))(hTB:fG N (λ_ _ _ _=>False) Lb (aF N 128 #[.agg iR] .normal) [] (UK w0))(hR:HR R0 w0 W)(hxA:AV R0 mi zz)(hxB:AV R0 iR zC)(zyt:AV (λa b l=>a=b/\l=0/\rO w0 a) mi mi)(zyu:AV (λa b l=>a=b/\l=0/\rO w0 a) iR iR)(hgl:GlR R0 w0)(J:zz.size=22)(K:zC.size=22)(h1A:zz.all nF=E)(h1B:zC.all nF=E)(k:Nat):r9 prog (c8 W.heap.size) (F2 N w0 R0 (c8 W.heap.size) mi iR) cF csF ⟨.st,k,0,λ_=>False,λb=>∃a l,R0 a b l,(c8 W.heap.size).sh,G (aF prog 104 #[.agg (zz++zC)] .normal) (cF::csF),W⟩:=by
 obtain⟨dL,huL,hrL⟩:=Az uLk;obtain⟨dD,Q0,Q1⟩:=Az uDr;obtain⟨zL,hL1,hL2⟩:=ak.1 zLk;obtain⟨iL,hiL,hzL⟩:=bH.1 hL1;obtain⟨zG,hG1,hG2⟩:=ak.1 zWg;obtain⟨iG,hiG,hzG⟩:=bH.1 hG1;obtain⟨zM,hM1,hM2⟩:=ak.1 zMu;obtain⟨iM,hiM,hzM⟩:=bH.1 hM1;obtain⟨zB,hB1,hB2⟩:=ak.1 zBo;obtain⟨iB,hiB,zyH⟩:=bH.1 hB1;obtain⟨zI,hI1,hI2⟩:=ak.1 zy6;obtain⟨iI,hiI,hzI⟩:=bH.1 hI1;obtain⟨zD,hD1,hD2⟩:=ak.1 zDr;obtain⟨iD,hiD,hzD⟩:=bH.1 hD1;have YF:(zz++zC).size=44:=by simp[J,K]
 have zfw:(zz++zC).all nF=E:=by rw[Array.all_append,h1A,h1B];rfl
 generalize hn:W.heap.size=n;rw[enter_at _ func104 rfl];walk_nrmf f104;have x:∀b,(∃a l,R0 a b l)->b<n:=λb⟨a,l,r⟩=>hn▸(hR.lt r).2;have Q2:∀i,i<2->¬(c8 n).sh (n+i):=λi hi h=>by have:=Ez.1 h;omega
 have S0:SF n W R0 (zz++zC) zL.cells zB.cells 0 W:=⟨hn,λ_ _=>rfl,λi hi=>absurd hi Y0⟩;refine AB (m:=10) ?_ (λg w h=>h w (RM.refl _));have hF:RM (c8 n) .st (λb=>(False\/∃a l,R0 a b l)\/(c8 n).sh b) W W:=RM.refl _;repeat w_go RM.trans
 refine ba (λbd p=>?_);replace S0:=S0.rely (λb j=>.inl (.inr j)) (λi hi=>absurd hi Y0) (hF.trans p);clear hF p;refine zmI rfl rfl Y4 rfl rfl λA eU zyM t zoJ zoL=>?_;replace S0:=S0.rely (λb j=>.inl (.inr j)) (λi hi=>absurd hi Y0) t;obtain rfl:n=zyM:=S0.size.symm.trans zoJ.symm;have S1:=S0.push x rfl zoL;clear S0 zoJ zoL t;refine pS rfl rfl Y4 rfl hiL hzL λA kH zbI t B o=>?_;replace S1:=S1.rely (λb j=>.inl (.inr j)) (λi hi=>by obtain rfl:i=0:=Y0;exact .inl (.inl (.inr ⟨rfl,Q2 0 Y0⟩))) t;obtain rfl:zbI=n+1:=B.trans S1.size;have S2:=S1.push x rfl o;clear S1 B o t A bd;walk_nrm;refine AB (m:=10) ?_ (λg w h=>h w (RM.refl _));have hF:RM (c8 n) .st (λb=>(((False\/(b=n/\¬(c8 n).sh b))\/(b=n+1/\¬(c8 n).sh b))\/∃a l,R0 a b l)\/(c8 n).sh b) kH kH:=RM.refl _;repeat w_go RM.trans
 refine ba (λbd p=>?_);have hN2:∀i,i<2->(((False\/(n+i=n/\¬(c8 n).sh (n+i)))\/(n+i=n+1/\¬(c8 n).sh (n+i)))\/∃a l,R0 a (n+i) l)\/(c8 n).sh (n+i):=λi hi=>by
  have h2:i=0\/i=1:=Y0;rcases h2 with rfl|rfl;.exact .inl (.inl (.inl (.inr ⟨rfl,Q2 0 Y0⟩)))
  .exact .inl (.inl (.inr ⟨rfl,Q2 1 Y0⟩))
 replace S2:=S2.rely (λb j=>.inl (.inr j)) hN2 (hF.trans p);clear hF p;refine pS rfl rfl Y4 rfl hiG hzG λA kH zbI t B o=>?_;replace S2:=S2.rely (λb j=>.inl (.inr j)) hN2 t;obtain rfl:zbI=n+2:=B.trans S2.size;have S3:=S2.push x (by rw[hG2];rfl) o;clear S2 hN2 B o t A bd;walk_nrm;have hn2:(c8 n).sh (n+2):=Ez.2 (.inl rfl);have hn3:(c8 n).sh (n+3):=Ez.2 (.inr (.inl rfl));have hn4:(c8 n).sh (n+4):=Ez.2 (.inr (.inr rfl));refine AB (m:=10) ?_ (λg w h=>h w (RM.refl _));have hF:RM (c8 n) .st (λb=>((((False\/(b=n/\¬(c8 n).sh b))\/(b=n+1/\¬(c8 n).sh b))\/(b=n+2/\¬(c8 n).sh b))\/∃a l,R0 a b l)\/(c8 n).sh b) kH kH:=RM.refl _;repeat w_go RM.trans
 refine ba (λbd p=>?_);have hN3:∀i,i<3->((((False\/(n+i=n/\¬(c8 n).sh (n+i)))\/(n+i=n+1/\¬(c8 n).sh (n+i)))\/(n+i=n+2/\¬(c8 n).sh (n+i)))\/∃a l,R0 a (n+i) l)\/(c8 n).sh (n+i):=λi hi=>by
  have h2:i=0\/i=1\/i=2:=Y0;rcases h2 with rfl|rfl|rfl;.exact .inl (.inl (.inl (.inl (.inr ⟨rfl,Q2 0 Y0⟩))))
  .exact .inl (.inl (.inl (.inr ⟨rfl,Q2 1 Y0⟩)))
  .exact .inr hn2
 replace S3:=S3.rely (λb j=>.inl (.inr j)) hN3 (hF.trans p);clear hF p;refine pS rfl rfl Y4 rfl hiM hzM λA kH zbI t B o=>?_;replace S3:=S3.rely (λb j=>.inl (.inr j)) hN3 t;obtain rfl:zbI=n+3:=B.trans S3.size;have S4:=S3.push x (by rw[hM2];rfl) o;clear S3 hN3 B o t A bd;walk_nrm;refine AB (m:=10) ?_ (λg w h=>h w (RM.refl _));have hF:RM (c8 n) .st (λb=>(((((False\/(b=n/\¬(c8 n).sh b))\/(b=n+1/\¬(c8 n).sh b))\/(b=n+2/\¬(c8 n).sh b))\/(b=n+3/\¬(c8 n).sh b))\/∃a l,R0 a b l)\/(c8 n).sh b) kH kH:=RM.refl _;repeat w_go RM.trans
 refine ba (λbd p=>?_);have Q:∀i,i<4->(((((False\/(n+i=n/\¬(c8 n).sh (n+i)))\/(n+i=n+1/\¬(c8 n).sh (n+i)))\/(n+i=n+2/\¬(c8 n).sh (n+i)))\/(n+i=n+3/\¬(c8 n).sh (n+i)))\/∃a l,R0 a (n+i) l)\/(c8 n).sh (n+i):=λi hi=>by
  have h2:i=0\/i=1\/i=2\/i=3:=Y0;rcases h2 with rfl|rfl|rfl|rfl;.exact .inl (.inl (.inl (.inl (.inl (.inr ⟨rfl,Q2 0 Y0⟩)))))
  .exact .inl (.inl (.inl (.inl (.inr ⟨rfl,Q2 1 Y0⟩))))
  .exact .inr hn2
  .exact .inr hn3
 replace S4:=S4.rely (λb j=>.inl (.inr j)) Q (hF.trans p);clear hF p;have hWS:(λb=>((((False\/(b=n/\¬(c8 n).sh b))\/(b=n+1/\¬(c8 n).sh b))\/(b=n+2/\¬(c8 n).sh b))\/(b=n+3/\¬(c8 n).sh b)))=λb=>b=n\/b=n+1:=by
  funext b;apply propext;constructor
  .rintro((((h|⟨h,_⟩)|⟨h,_⟩)|⟨rfl,h⟩)|⟨rfl,h⟩);.exact h.elim
   .exact .inl h
   .exact .inr h
   .exact absurd hn2 h
   .exact absurd hn3 h
  .rintro(rfl|rfl);.exact .inl (.inl (.inl (.inr ⟨rfl,Q2 0 Y0⟩)))
   .exact .inl (.inl (.inr ⟨rfl,Q2 1 Y0⟩))
 refine zmJ rfl rfl Y4 rfl hiB zyH (λA t=>?_) (λA eU t e=>?_) λA kH zbI t B o=>?_
 .have:=S4.rely (λb j=>.inl (.inr j)) Q t;rw[this.size];exact hn4
 .have S:=(S4.rely (λb j=>.inl (.inr j)) Q t).push x rfl e;exact⟨S.new 3 Y0,S.new 2 Y0,zB.cells,S.new 4 Y0,hB2⟩
 replace S4:=S4.rely (λb j=>.inl (.inr j)) Q t;obtain rfl:zbI=n+4:=B.trans S4.size;have S:=S4.push x rfl o;clear S4 Q B o t A bd;rw[hWS];clear hWS;walk_nrm;have zt7:kH.heap[n]?=C (.cells (zz++zC) 50):=S.new 0 Y0;have pN:kH.heap[n+1]?=C (.cells zL.cells 50):=S.new 1 Y0;have hold:=S.old;have hF:KX (c8 n) 2 (λb=>((b=n\/b=n+1)\/∃a l,R0 a b l)\/noX b) kH kH:=by
  refine⟨Cj n,λb j hs=>?_,fF.refl _ _,⟨⟨_,_,S.new 3 Y0⟩,⟨_,_,S.new 2 Y0⟩,⟨_,S.new 4 Y0,hB2⟩⟩⟩;have h3:=Ez.1 hs;rcases j with((rfl|rfl)|j)|j;.omega
  .omega
  .have:=x b j;omega
  .exact j.elim
 clear S;refine bL Y1 (m:=20) ?_;repeat w_go KX.rely
 refine ba (λbd p=>?_);replace hF:=KX.rely hF p;clear p;refine Gz rfl rfl Y4 rfl rfl (.inl (.inl rfl)) ((hF.r.blk n (.inl (.inl (.inl rfl)))).trans zt7) Q0 Q1 sDr Y0 λA t=>?_;replace hF:=KX.rely hF t.1;clear t bd;rw[show(0+22)=22 from rfl,zid J];walk_nrm;refine bL Y1 (m:=20) ?_;repeat w_go KX.rely
 refine ba (λbd p=>?_);replace hF:=KX.rely hF p;clear p;refine Gz rfl rfl Y4 rfl rfl (.inl (.inl rfl)) ((hF.r.blk n (.inl (.inl (.inl rfl)))).trans zt7) Q0 Q1 sDr Y0 λA t=>?_;replace hF:=KX.rely hF t.1;clear t bd;rw[show(22+22)=44 from rfl,zie J K];walk_nrm;refine Cr (v:=.agg (zz++zC)) rfl rfl Y4 (λw=>ZQ rfl (by simp[a8]) (zkV J K w _)) λbd p=>?_;replace hF:=KX.rely hF p.1;clear p A;walk_nrm;refine bL Y1 (m:=60) ?_;repeat w_go KX.rely
 refine ba (λbd p=>?_);replace hF:=KX.rely hF p;clear p;refine Cr (v:=.agg zz) rfl rfl Y4 (λw=>ZR rfl (zeN J K w _).1) λA p=>?_;replace hF:=KX.rely hF p.1;clear p bd;walk_nrm;refine pS rfl rfl Y4 rfl hiI hzI λeU Q3 nE q I Q4=>?_;replace hF:=KX.rely hF q.1;have u:¬(c8 n).sh nE:=λh=>by have:=hF.l.lt h;omega
 have hmn:n+1<nE:=by rw[I];exact(ab.1 ((hF.r.blk (n+1) (.inl (.inl (.inr rfl)))).trans pN)).1
 replace pN:Q3.heap[n+1]?=C (.cells zL.cells 50):=by rw[Q4];exact sT ((hF.r.blk (n+1) (.inl (.inl (.inr rfl)))).trans pN)
 have SK:Q3.heap[nE]?=C (.cells #[.int .i64 0] 3):=by rw[Q4,I];show(eU.heap.push _)[eU.heap.size]?=_;rw[hI2];simp
 replace hold:∀b,(∃a l,R0 a b l)->Q3.heap[b]?=W.heap[b]?:=λb j=>by rw[Q4];show(eU.heap.push _)[b]?=_;rw[bx,if_neg (by have:=x b j;omega)];exact(hF.r.blk b (.inl (.inr j))).trans (hold b j)
 replace hF:=hF.push (m:=nE) Q4;clear q I Q4 A eU;walk_nrm;refine pS rfl rfl Y4 rfl hiD hzD λeU kH m₁ q I o=>?_;replace hF:=KX.rely hF q.1;have y:¬(c8 n).sh m₁:=λh=>by have:=hF.l.lt h;omega
 have D:=(hF.r.blk nE (.inl (.inl (.inr ⟨rfl,u⟩)))).trans SK;have R:nE<m₁:=by rw[I];exact(ab.1 D).1
 replace pN:kH.heap[n+1]?=C (.cells zL.cells 50):=by rw[o];exact sT ((hF.r.blk (n+1) (.inl (.inl (.inl (.inr rfl))))).trans pN)
 replace SK:kH.heap[nE]?=C (.cells #[.int .i64 0] 3):=by rw[o];exact sT D
 have YJ:kH.heap[m₁]?=C (.cells zD.cells 45):=by rw[o,I];show(eU.heap.push _)[eU.heap.size]?=_;simp
 replace hold:∀b,(∃a l,R0 a b l)->kH.heap[b]?=W.heap[b]?:=λb j=>by rw[o];show(eU.heap.push _)[b]?=_;rw[bx,if_neg (by have:=x b j;omega)];exact(hF.r.blk b (.inl (.inr j))).trans (hold b j)
 replace hF:=hF.push (m:=m₁) o;clear q I o D eU Q3;walk_nrm;refine PY rfl rfl Y4 rfl rfl rfl (.inl (.inr ⟨rfl,u⟩)) u SK zul Y1 rfl λeU Q3 q P z Q5=>?_;replace hF:=KX.rely hF q.1;replace pN:=(z (n+1) Y0).trans ((hF.r.blk (n+1) (.inl (.inl (.inl (.inl (.inr rfl)))))).trans pN);replace YJ:=(z m₁ Y0).trans ((hF.r.blk m₁ (.inl (.inl (.inr ⟨rfl,y⟩)))).trans YJ);replace hold:∀b,(∃a l,R0 a b l)->Q3.heap[b]?=W.heap[b]?:=λb j=>(z b (by have:=x b j;omega)).trans ((hF.r.blk b (.inl (.inr j))).trans (hold b j));replace SK:Q3.heap[nE]?=C (.cells #[.int .i64 0] 3):=P;replace hF:=hF.stored u z;clear q P z Q5 eU kH;walk_nrm;refine Jg rfl rfl Y4 rfl rfl rfl (.inr ⟨rfl,y⟩) y YJ sDr J Y0 h1A λeU kH q P z Q5=>?_;replace hF:=KX.rely hF q.1;replace pN:=(z (n+1) Y0).trans ((hF.r.blk (n+1) (.inl (.inl (.inl (.inl (.inr rfl)))))).trans pN);replace SK:=(z nE Y0).trans ((hF.r.blk nE (.inl (.inl (.inl (.inr ⟨rfl,u⟩))))).trans SK);replace hold:∀b,(∃a l,R0 a b l)->kH.heap[b]?=W.heap[b]?:=λb j=>(z b (by have:=x b j;omega)).trans ((hF.r.blk b (.inl (.inr j))).trans (hold b j));replace YJ:kH.heap[m₁]?=C (.cells zz 45):=by rw[P];congr 2;apply iF;simp[cK,hD2]
 replace hF:=hF.stored y z;clear q P z Q5 eU Q3;walk_nrm;refine bL Y1 (m:=20) ?_;repeat w_go KX.rely
 refine ba (λeU q=>?_);refine zee (w0:=kH) rfl rfl rfl Y4 rfl (by simp[a8];rfl) (λQ3 T=>?_) (KX.rely hF q);clear q eU;replace hF:=T;clear T;walk_nrm;refine bL Y1 (m:=20) ?_;repeat w_go KX.rely
 refine ba (λeU q=>?_);replace hF:=KX.rely hF q;clear q;refine fU (λ_=>rfl) λIY q=>?_;replace hF:=KX.rely hF q.1;clear q;replace pN:=(hF.r.blk (n+1) (.inl (.inl (.inl (.inl (.inr rfl)))))).trans pN;replace SK:=(hF.r.blk nE (.inl (.inl (.inl (.inr ⟨rfl,u⟩))))).trans SK;replace YJ:=(hF.r.blk m₁ (.inl (.inl (.inr ⟨rfl,y⟩)))).trans YJ;replace hold:∀b,(∃a l,R0 a b l)->IY.heap[b]?=W.heap[b]?:=λb j=>(hF.r.blk b (.inl (.inr j))).trans (hold b j);have M:=hF.l;have O:∀b,((((b=n\/b=n+1)\/(b=nE/\¬(c8 n).sh b))\/(b=m₁/\¬(c8 n).sh b))\/∃a l,R0 a b l)\/noX b->¬(c8 n).sh b:=hF.st;clear hF;refine .go 0 rfl Y0 rfl _ _ (λb=>(∃a l,R0 a b l)\/b=m₁\/b=nE) (λb=>b=n\/b=n+1) (( stepG_spawn (d:=xZ (c8 n) m₁ nE) (w':=IY) (f:=.func 126) (c:=#[.pointer (C ⟨(c8 n).Wg,0,U⟩),.pointer (C ⟨m₁,0,U⟩),.pointer (C ⟨(c8 n).Mu,0,U⟩),.pointer (C ⟨(c8 n).Bo,0,U⟩),.pointer (C ⟨nE,0,U⟩)]) rfl rfl Y4 (by simp[go_sem,xZ,ey,c8]) rfl).trans (congrArg _ (oy.2 λe he=>by have I:=mem_listed he;simp[go_sem,ey]at I))) rfl (λb j=>?_) (λb j=>⟨.inl (.inl j),λh=>?_⟩) (λkc=>?_) ?_
 .rcases j with j|rfl|rfl;.exact .inr j
  .exact .inl (.inr ⟨rfl,y⟩)
  .exact .inl (.inl (.inr ⟨rfl,u⟩))
 .rcases h with h|h|h;.have:=x b h;omega
  .omega
  .omega
 .refine V4 (csG:=mi) (csR:=zz) (R0:=R0) (s:=0) g gp (Cj n) rfl rfl Y0 hf hTA (hR.right λa b l r=>hold b ⟨a,l,r⟩) hxA zyt hgl J YJ (by simp[World.cell?,SK]) (λb j=>.inl j) (.inr (.inl rfl)) (.inr (.inr rfl)) (λb j=>?_) M kc;rcases j with j|rfl|rfl;.exact O b (.inl (.inr j))
  .exact y
  .exact u
 show r9 prog (c8 n) (F2 N w0 R0 (c8 n) mi iR) cF csF ⟨.ad 1,k,0,λb=>b=n\/b=n+1,λb=>∃a l,R0 a b l,noX,_,IY⟩;have hF:KX (c8 n) 2 (λb=>((b=n\/b=n+1)\/∃a l,R0 a b l)\/noX b) IY IY:=⟨Cj n,λb j=>O b (j.imp (λh=>h.imp (λh=>.inl (.inl h)) id) id),fF.refl _ _,M⟩;clear O M SK YJ u y hmn R kH;walk_nrm;refine bL Y1 (m:=60) ?_;repeat w_go KX.rely
 refine ba (λbd p=>?_);replace hF:=KX.rely hF p;clear p;refine Cr (v:=.agg zC) rfl rfl Y4 (λw=>ZR rfl (zeN J K w _).2) λA p=>?_;replace hF:=KX.rely hF p.1;clear p bd;walk_nrm;refine pS rfl rfl Y4 rfl hiI hzI λeU Q3 nE q I Q4=>?_;replace hF:=KX.rely hF q.1;have u:¬(c8 n).sh nE:=λh=>by have:=hF.l.lt h;omega
 have hmn:n+1<nE:=by rw[I];exact(ab.1 ((hF.r.blk (n+1) (.inl (.inl (.inr rfl)))).trans pN)).1
 replace pN:Q3.heap[n+1]?=C (.cells zL.cells 50):=by rw[Q4];exact sT ((hF.r.blk (n+1) (.inl (.inl (.inr rfl)))).trans pN)
 have SK:Q3.heap[nE]?=C (.cells #[.int .i64 0] 3):=by rw[Q4,I];show(eU.heap.push _)[eU.heap.size]?=_;rw[hI2];simp
 replace hold:∀b,(∃a l,R0 a b l)->Q3.heap[b]?=W.heap[b]?:=λb j=>by rw[Q4];show(eU.heap.push _)[b]?=_;rw[bx,if_neg (by have:=x b j;omega)];exact(hF.r.blk b (.inl (.inr j))).trans (hold b j)
 replace hF:=hF.push (m:=nE) Q4;clear q I Q4 A eU;walk_nrm;refine pS rfl rfl Y4 rfl hiD hzD λeU kH m₁ q I o=>?_;replace hF:=KX.rely hF q.1;have y:¬(c8 n).sh m₁:=λh=>by have:=hF.l.lt h;omega
 have D:=(hF.r.blk nE (.inl (.inl (.inr ⟨rfl,u⟩)))).trans SK;have R:nE<m₁:=by rw[I];exact(ab.1 D).1
 replace pN:kH.heap[n+1]?=C (.cells zL.cells 50):=by rw[o];exact sT ((hF.r.blk (n+1) (.inl (.inl (.inl (.inr rfl))))).trans pN)
 replace SK:kH.heap[nE]?=C (.cells #[.int .i64 0] 3):=by rw[o];exact sT D
 have YJ:kH.heap[m₁]?=C (.cells zD.cells 45):=by rw[o,I];show(eU.heap.push _)[eU.heap.size]?=_;simp
 replace hold:∀b,(∃a l,R0 a b l)->kH.heap[b]?=W.heap[b]?:=λb j=>by rw[o];show(eU.heap.push _)[b]?=_;rw[bx,if_neg (by have:=x b j;omega)];exact(hF.r.blk b (.inl (.inr j))).trans (hold b j)
 replace hF:=hF.push (m:=m₁) o;clear q I o D eU Q3;walk_nrm;refine PY rfl rfl Y4 rfl rfl rfl (.inl (.inr ⟨rfl,u⟩)) u SK zul Y1 rfl λeU Q3 q P z Q5=>?_;replace hF:=KX.rely hF q.1;replace pN:=(z (n+1) Y0).trans ((hF.r.blk (n+1) (.inl (.inl (.inl (.inl (.inr rfl)))))).trans pN);replace YJ:=(z m₁ Y0).trans ((hF.r.blk m₁ (.inl (.inl (.inr ⟨rfl,y⟩)))).trans YJ);replace hold:∀b,(∃a l,R0 a b l)->Q3.heap[b]?=W.heap[b]?:=λb j=>(z b (by have:=x b j;omega)).trans ((hF.r.blk b (.inl (.inr j))).trans (hold b j));replace SK:Q3.heap[nE]?=C (.cells #[.int .i64 1] 3):=P;replace hF:=hF.stored u z;clear q P z Q5 eU kH;walk_nrm;refine Jg rfl rfl Y4 rfl rfl rfl (.inr ⟨rfl,y⟩) y YJ sDr K Y0 h1B λeU kH q P z Q5=>?_;replace hF:=KX.rely hF q.1;replace pN:=(z (n+1) Y0).trans ((hF.r.blk (n+1) (.inl (.inl (.inl (.inl (.inr rfl)))))).trans pN);replace SK:=(z nE Y0).trans ((hF.r.blk nE (.inl (.inl (.inl (.inr ⟨rfl,u⟩))))).trans SK);replace hold:∀b,(∃a l,R0 a b l)->kH.heap[b]?=W.heap[b]?:=λb j=>(z b (by have:=x b j;omega)).trans ((hF.r.blk b (.inl (.inr j))).trans (hold b j));replace YJ:kH.heap[m₁]?=C (.cells zC 45):=by rw[P];congr 2;apply iF;simp[cK,hD2]
 replace hF:=hF.stored y z;clear q P z Q5 eU Q3;walk_nrm;refine bL Y1 (m:=20) ?_;repeat w_go KX.rely
 refine ba (λeU q=>?_);refine zee (w0:=kH) rfl rfl rfl Y4 rfl (by simp[a8];rfl) (λQ3 T=>?_) (KX.rely hF q);clear q eU;replace hF:=T;clear T;walk_nrm;refine bL Y1 (m:=20) ?_;repeat w_go KX.rely
 refine ba (λeU q=>?_);replace hF:=KX.rely hF q;clear q;refine fU (λ_=>rfl) λIY q=>?_;replace hF:=KX.rely hF q.1;clear q;replace pN:=(hF.r.blk (n+1) (.inl (.inl (.inl (.inl (.inr rfl)))))).trans pN;replace SK:=(hF.r.blk nE (.inl (.inl (.inl (.inr ⟨rfl,u⟩))))).trans SK;replace YJ:=(hF.r.blk m₁ (.inl (.inl (.inr ⟨rfl,y⟩)))).trans YJ;replace hold:∀b,(∃a l,R0 a b l)->IY.heap[b]?=W.heap[b]?:=λb j=>(hF.r.blk b (.inl (.inr j))).trans (hold b j);have M:=hF.l;have O:∀b,((((b=n\/b=n+1)\/(b=nE/\¬(c8 n).sh b))\/(b=m₁/\¬(c8 n).sh b))\/∃a l,R0 a b l)\/noX b->¬(c8 n).sh b:=hF.st;clear hF;refine .go 1 rfl Y0 rfl _ _ (λb=>(∃a l,R0 a b l)\/b=m₁\/b=nE) (λb=>b=n\/b=n+1) (( stepG_spawn (d:=xZ (c8 n) m₁ nE) (w':=IY) (f:=.func 126) (c:=#[.pointer (C ⟨(c8 n).Wg,0,U⟩),.pointer (C ⟨m₁,0,U⟩),.pointer (C ⟨(c8 n).Mu,0,U⟩),.pointer (C ⟨(c8 n).Bo,0,U⟩),.pointer (C ⟨nE,0,U⟩)]) rfl rfl Y4 (by simp[go_sem,xZ,ey,c8]) rfl).trans (congrArg _ (oy.2 λe he=>by have I:=mem_listed he;simp[go_sem,ey]at I))) rfl (λb j=>?_) (λb j=>⟨.inl (.inl j),λh=>?_⟩) (λkc=>?_) ?_
 .rcases j with j|rfl|rfl;.exact .inr j
  .exact .inl (.inr ⟨rfl,y⟩)
  .exact .inl (.inl (.inr ⟨rfl,u⟩))
 .rcases h with h|h|h;.have:=x b h;omega
  .omega
  .omega
 .refine V4 (csG:=iR) (csR:=zC) (R0:=R0) (s:=1) g gp (Cj n) rfl rfl Y0 hf hTB (hR.right λa b l r=>hold b ⟨a,l,r⟩) hxB zyu hgl K YJ (by simp[World.cell?,SK]) (λb j=>.inl j) (.inr (.inl rfl)) (.inr (.inr rfl)) (λb j=>?_) M kc;rcases j with j|rfl|rfl;.exact O b (.inl (.inr j))
  .exact y
  .exact u
 show r9 prog (c8 n) (F2 N w0 R0 (c8 n) mi iR) cF csF ⟨.w1,k,0,λb=>b=n\/b=n+1,λb=>∃a l,R0 a b l,noX,_,IY⟩;have hF:KX (c8 n) 2 (λb=>((b=n\/b=n+1)\/∃a l,R0 a b l)\/noX b) IY IY:=⟨Cj n,λb j=>O b (j.imp (λh=>h.imp (λh=>.inl (.inl h)) id) id),fF.refl _ _,M⟩;clear O M SK YJ u y hmn R kH;walk_nrm;refine bL Y1 (m:=60) ?_;repeat w_go KX.rely
 refine ba (λeU q=>?_);refine zjB (w0:=IY) rfl rfl Y4 rfl (by simp[a8];rfl) (λk w IM D9 z1 z2 z3 z4 z5=>?_) k (KX.rely hF q);clear hF q eU;walk_nrm;have Z:IM.size=22:=z1;have hzP:D9.size=22:=z2;have zua:(IM++D9).size=44:=by simp[Z,hzP]
 have hbo:w.heap[n+4]?=C (.cells (IM++D9) 169):=z4.1;replace pN:=(z5 (n+1) (.inr rfl)).trans pN;clear z1 z2 z4 z5 hold;have hF:fF (c8 n) 2 (λb=>((b=n\/b=n+1)\/b=(c8 n).Bo)\/noX b) w w:=fF.refl _ _;refine bL Y1 (m:=20) ?_;repeat w_go fF.trans
 refine ba (λbd p=>?_);replace hF:=fF.trans hF p;clear p;refine Zw (v:=.pointer (C ⟨n+4,0,U⟩)) rfl rfl Y4 (λw=>by unfold aG;simp[go_sem,a8]) (λw=>by unfold aG;simp[go_sem,a8,gm,cC]) λA t=>?_;replace hF:=fF.trans hF t.1;clear t;walk_nrm;refine Gz rfl rfl Y4 rfl rfl (.inr rfl) ((hF.blk (n+4) (.inl (.inr rfl))).trans hbo) Q0 Q1 sDr Y0 λA t=>?_;replace hF:=fF.trans hF t.1;clear t;rw[show(0+22)=22 from rfl,zid Z];walk_nrm;refine bL Y1 (m:=20) ?_;repeat w_go fF.trans
 refine ba (λbd p=>?_);replace hF:=fF.trans hF p;clear p;refine Zw (v:=.pointer (C ⟨n+4,22,U⟩)) rfl rfl Y4 (λw=>by unfold aG;simp[go_sem,a8]) (λw=>by unfold aG;simp[go_sem,a8,gm,cC]) λA t=>?_;replace hF:=fF.trans hF t.1;clear t;walk_nrm;refine Gz rfl rfl Y4 rfl rfl (.inr rfl) ((hF.blk (n+4) (.inl (.inr rfl))).trans hbo) Q0 Q1 sDr Y0 λA t=>?_;replace hF:=fF.trans hF t.1;clear t;rw[show(22+22)=44 from rfl,zie Z hzP];walk_nrm;refine Cr (v:=.agg (IM++D9)) rfl rfl Y4 (λw=>ZQ rfl (by simp[a8]) (zkY Z hzP w _)) λbd p=>?_;replace hF:=fF.trans hF p.1;clear p;walk_nrm;refine Jg rfl rfl Y4 rfl rfl rfl (.inr rfl) (Q2 1 Y0) ((hF.blk (n+1) (.inl (.inl (.inr rfl)))).trans pN) sLk zua Y0 z3 λA eU t P z Q5=>?_;replace pN:eU.heap[n+1]?=C (.cells (IM++D9) 50):=by rw[P];congr 2;apply iF;simp[cK,hL2]
 clear hF t P z Q5;have hF:fF (c8 n) 2 (λb=>((b=n\/b=n+1)\/b=(c8 n).Bo)\/noX b) eU eU:=fF.refl _ _;walk_nrm;refine bL Y1 (m:=20) ?_;repeat w_go fF.trans
 refine ba (λbd p=>?_);replace hF:=fF.trans hF p;clear p;refine zfF (d:=0) rfl rfl func104 rfl rfl (.inl (.inr rfl)) ((hF.blk (n+1) (.inl (.inl (.inr rfl)))).trans pN) huL hrL sLk Y0 λA t=>?_;have hall:(IM++D9).extract 0 (0+44)=IM++D9:=by apply iF;simp only[df,cf,jY,oW,ew];exact aM (by simpa using cI zua)
 rw[hall];exact fU (λ_=>rfl) λeU _=>.fin IM D9 rfl rfl rfl
end
end Rn
namespace Rn
open Go Go.Conc
def oI(P:al){α:Type}:Sem α->Option α|.pure a=>C a|.program k=>oI P (k P)|_=>U
def VI{P:al}{α:Type}:∀{s:Sem α}{a:α},oI P s=C a->∀w e,s.runT P w e=(.ok a w,e)|.pure a,b,h,w,e=>by cases h;rfl|.program k,b,h,w,e=>VI (s:=k P) h w e|.load ..,_,h,_,_=>by cases h|.store ..,_,h,_,_=>by cases h|.new ..,_,h,_,_=>by cases h|.shape ..,_,h,_,_=>by cases h|.freeze ..,_,h,_,_=>by cases h|.frozen ..,_,h,_,_=>by cases h|.getObj ..,_,h,_,_=>by cases h|.setObj ..,_,h,_,_=>by cases h|.choose ..,_,h,_,_=>by cases h|.sys ..,_,h,_,_=>by cases h|.mark ..,_,h,_,_=>by cases h|.halt ..,_,h,_,_=>by cases h
def qa{P:al}{α:Type}{s:Sem α}{a:α}(h:oI P s=C a)(w:V):s.run P w=.ok a w/\s.events P w #[]=#[]:=by have:=VI h w #[];rw[Sem.runT_eq]at this;simp_all
def YV(f:ag):Option Oper:=match f.todo with|.inRegion ops (i::_)::_=>if((ops[i]?).map (ar . (yielded ops f.tmps))).getD H then ops[i]? else U|_=>U
def zjk(P:al)(fr:ag)(c:List ag):Option (ag×List ag):=match YV fr with|none=>C (fr.finish undef,c)|some o=>match oI P (aG fr.eval o)with|some (.value v)=>C (fr.finish v,c)|some .skip=>C (fr.finish undef,c)|some (.enter f args)=>C (aF P f args .normal,fr::c)|some (.defer d)=>C ({fr with defers:=d::fr.defers}.finish undef,c)|some .recover=>(match tryRecover fr c with|some (v,a)=>C (fr.finish v,a)|none=>C (fr.finish .nilIface,c))|_=>U
def to1(fr:ag)(c:List ag)(k:List mZ):Option (ag×List ag):=C ({fr with todo:=k},c)
def XA(P:al)(fr:ag)(d:List ag):Option (ag×List ag):=match fr.todo with|[]|.code .ret::_=>C ({fr with mode:=.returning},d)|.code .skip::k|.inBlock _::k=>to1 fr d k|.code (.seq a b)::k=>to1 fr d (.code a::.code b::k)|.code (.cond c a b)::k=>(match fr.eval c with|.bool E=>to1 fr d (.code a::k)|.bool H=>to1 fr d (.code b::k)|_=>U)|.code (.block id c)::k=>to1 fr d (.code c::.inBlock id::k)|.code (.loop c)::k|.inLoop c::k=>to1 fr d (.code c::.inLoop c::k)|.code (.exit id)::k=>(match exitTo id k with|some e=>to1 fr d e|none=>U)|.code (.region _ ops H)::k=>to1 fr d (.inRegion ops (List.range ops.size)::k)|.inRegion _ []::k=>to1 fr d k|.inRegion _ (_::_)::_=>zjk P fr d|_=>U
def G1(P:al)(fr:ag)(g:List ag):Option (ag×List ag):=match fr.defers with|d::a=>(match d.target with|.fn ..=>(match oI P (invoke d.target d.args)with|some (.enter f args)=>C (aF P f args .deferred,{fr with defers:=a}::g)|_=>U)|_=>U)|[]=>(match fr.mode,P.funcs[fr.fn]?,g with|.returning,C fn,c::b=>(match oI P (results fn fr.tmps)with|some v=>(match fr.kind,c.mode with|.normal,_=>C (c.finish v,b)|.deferred,.returning=>C (c,b)|.deferred,.panicking [e]=>if e.recovered then C ({c with mode:=.returning},b)else C (c,b)|_,_=>U)|none=>U)|_,_,_=>U)
def MF(P:al)(x:ag×List ag):Option (ag×List ag):=match x.1.roundOf,x.1.kind with|none,.normal|none,.deferred=>(match x.1.mode with|.run=>XA P x.1 x.2|_=>G1 P x.1 x.2)|_,_=>U
def Oa(P:al):Nat->ag×List ag->ag×List ag|0,x=>x|n+1,x=>match MF P x with|some y=>Oa P n y|none=>x
def VS{P:al}{O:Bool}{x y:ag×List ag}(j:MF P x=C y)(w:V):bg P O (G x.1 x.2) w=.go (G y.1 y.2) w #[]:=by
 have⟨N,R⟩:=x;unfold MF at j;simp  at j;have Z:∀(r:N.roundOf=U)(D:N.kind=.normal\/N.kind=.deferred),(match N.mode with|.run=>XA P N R|_=>G1 P N R)=C y->bg P O (G N R) w=.go (G y.1 y.2) w #[]:=by
  intro r D h;have l:(N.kind==jW)=H:=Y8;have X:∀(m:N.mode≠.run),G1 P N R=C y->bg P O (G N R) w=.go (G y.1 y.2) w #[]:=by
   intro m M;have B:bg P O (G N R) w=unwind P O N R U w:=by cases A:N.mode with|run=>cases m A|_=>simp[bg,G,A]
   rw[B];unfold G1 at M;cases hd:N.defers with
   |cons d J=>rw[hd]at M;simp  at M;have⟨F,args⟩:=d;cases F with
    |fn f cap=>simp  at M;cases Q:oI P (invoke (.fn f cap) args)with|none=>rw[Q]at M;cases M|some n=>
     rw[Q]at M;cases n<;>first|(cases M;done)|skip
     simp[ay]at M;subst M;simp[unwind,hd,callDeferred,qa Q w,bP,seen,G]
    |_=>cases M
   |nil=>
    rw[hd]at M;simp  at M;split at M;.rename_i fn c cs' q s;cases Q:oI P (results fn N.tmps)with |none=>rw[Q]at M;cases M|some v=>
     rw[Q]at M;simp  at M;have S:=qa Q w;split at M
     .rename_i g;simp[ay]at M;subst M;simp[unwind,hd,q,s,S,qT,g,bP,seen,G]
     .rename_i g u;simp[ay]at M;subst M;simp[unwind,hd,q,s,S,qT,g,u,bP,seen,G]
     .rename_i e g u;have⟨ev,L,K⟩:=e;cases L<;>(simp[bt,if_false,if_true,ay]at M;subst M;simp[unwind,hd,q,s,S,qT,g,u,bP,seen,G])
     .cases M
    .cases M
  cases m:N.mode with|returning=>rw[m]at h;simp_all|panicking ch=>rw[m]at h;simp_all|run=>
   rw[m]at h;simp  at h;unfold XA at h;split at h;.rename_i e;cases h;simp[bg,G,m,bT,e,r]
   .rename_i k e;cases h;simp[bg,G,m,bT,e,r]
   .rename_i k e;cases h;simp[bg,G,m,bT,e]
   .rename_i k e;cases h;simp[bg,G,m,bT,e]
   .rename_i a b k e;cases h;simp[bg,G,m,bT,e]
   .rename_i c a b k e;split at h;.rename_i t;cases h;simp[bg,G,m,bT,e,t]
    .rename_i t;cases h;simp[bg,G,m,bT,e,t]
    .cases h
   .rename_i k e;cases h;simp[bg,G,m,bT,e]
   .rename_i k e;cases h;simp[bg,G,m,bT,e]
   .rename_i k e;cases h;simp[bg,G,m,bT,e]
   .rename_i id k e;split at h;.rename_i k' t;cases h;simp[bg,G,m,bT,e,t]
    .cases h
   .rename_i ops k e;cases h;simp[bg,G,m,bT,e]
   .rename_i ops k e;cases h;simp[bg,G,m,bT,e]
   .rename_i ops i rest k e;unfold zjk YV at h;rw[e]at h;simp  at h;by_cases hw:((ops[i]?).map (ar . (yielded ops N.tmps))).getD H=E
    .rw[if_pos hw]at h;cases W:ops[i]? with|none=>rw[W]at hw;cases hw|some o=>
     have z:N.oper?=C o:=by simp[AO,e,W]
     have I:bg P O (G N R) w=cD P E N R U (aG N.eval o) w:=by simp[bg,G,m,bT,e,hw,if_true,EX,z,r]
     rw[I];rw[W]at h;simp  at h;cases Q:oI P (aG N.eval o)with|none=>rw[Q]at h;cases h|some n=>
      rw[Q]at h;have S:=qa Q w;cases n<;>first|(cases h;done)|skip
      case recover=>simp  at h;cases T:tryRecover N R with|none=>rw[T]at h;cases h;simp[cD,S,l,bP,seen,G,r,T]|some p=>rw[T]at h;cases h;simp[cD,S,l,bP,seen,G,r,T]
      all_goals simp[ay]at h;subst h;simp[cD,S,l,bP,seen,G,e]
    .rw[if_neg hw]at h;simp[ay]at h;subst h;simp[bg,G,m,bT,e,hw]
   .cases h
 split at j;.simp_all
 .simp_all
 .cases j
open Go.ConcM
def Wb(w a:V):Prop:=∃d,a=w.at d
structure UJ(W0:V)(dead:Nat->Prop)(w w':V)(es:Array bB):Prop where
 size:w.heap.size<=w'.heap.size
 old:∀b,b<W0.heap.size->w'.heap[b]?=w.heap[b]?
 os:w'.os=w.os
 output:w'.output=w.output
 ev:∀e∈es,(∀x,(aI e).touch?=C x->∃b,s5 x.loc=C b/\¬dead b/\b<w'.heap.size)/\(∀a,aI e≠.mark (.release a))/\aI e≠.mark .disable/\aI e≠.mark .enable
structure zbv(N:al)(W0:V)(dead:Nat->Prop)(fr:ag)(L:List ag)(wg:V)(cm:ag)(L':List ag)(w:V)(R:BR):Prop where
 f:u2 N R fr cm
 l:IJ N R L L'
 h:HR R wg w
 rn:∀a b l,R a b l->¬dead b/\(b<W0.heap.size->Fz wg a)gf:GlF wg
 dl:∀b,dead b->b<w.heap.size
 wz:W0.heap.size<=w.heap.size
def StS(N:al)(W0:V)(dead:Nat->Prop)(S:ag->List ag->V->Prop)(g:av)(w:V):Prop:=∃a L b f c R,g=G f c/\S a L b/\zbv N W0 dead a L b f c w R
def Seg(N:al)(d:ag)(L:List ag)(e:V)(S:ag->List ag->V->Prop):Prop:=∀W0 dead f b w R,zbv N W0 dead d L e f b w R->∃n,∀a,Wb w a->(bg prog E (G f b) a).goes λg c h=>UJ W0 dead a c h/\Goes prog E Wb (UJ W0 dead) (StS N W0 dead S) n g c
section
variable{W0:V}{dead:Nat->Prop}{A:av->V->Prop}{w w1:V}
def UJ.refl(w:V):UJ W0 dead w w #[]:=⟨ao _,λ_ _=>rfl,rfl,rfl,λe h=>by simp at h⟩
def Wb.refl(w:V):Wb w w:=⟨w.drawn,rfl⟩
def xn(a b c:V)(h:Wb a b)(k:Wb b c):Wb a c:=by obtain⟨d,rfl⟩:=h;obtain⟨e,rfl⟩:=k;exact⟨e,rfl⟩
abbrev Sg(W0:V)(dead:Nat->Prop)(A:av->V->Prop)(n:Nat)(x:ag×List ag)(w:V):Prop:=Goes prog E Wb (UJ W0 dead) A n (G x.1 x.2) w
variable{x:ag×List ag}
def Gt{n:Nat}(h:∀d,A (G x.1 x.2) (w.at d)):Sg W0 dead A n x w:=ba λa⟨d,e⟩=>e▸h d
variable{m:Nat}
def znV{y:ag×List ag}(h:MF prog x=C y)(k:Sg W0 dead A m y w):Sg W0 dead A (m+1) x w:=nS rfl λa r=>by rw[VS h a];exact⟨.refl _,k.rely xn r⟩
def ze0{m:Nat}{x:ag×List ag}(k:Sg W0 dead A m x w):∀n,Sg W0 dead A (m+n) x w|0=>k|n+1=>(ze0 k n).more
def lU:∀(n:Nat){m:Nat}{x:ag×List ag},Sg W0 dead A m (Oa prog n x) w->Sg W0 dead A (m+n) x w|0,_,_,k=>k|n+1,m,x,k=>by unfold Oa at k;cases h:MF prog x with|none=>rw[h]at k;exact ze0 k (n+1)|some y=>rw[h]at k;exact znV h (lU n k)
def znW{y:ag×List ag}{es:Array bB}(h:∀d,bg prog E (G x.1 x.2) (w.at d)=.go (G y.1 y.2) (w1.at d) es)(a:∀d,UJ W0 dead (w.at d) (w1.at d) es)(k:Sg W0 dead A m y w1):Sg W0 dead A (m+1) x w:=nS rfl λb⟨d,e⟩=>by subst e;rw[h d];exact⟨a d,k.rely xn ⟨d,rfl⟩⟩
variable{R:BR}
def Ge{i:BR}{zDM:V}{e:bB}(h:SI R zDM i e):(∀x,(aI e).touch?=C x->∃b a l,s5 x.loc=C b/\i a b l)/\(∀a,aI e≠.mark (.release a))/\aI e≠.mark .disable/\aI e≠.mark .enable:=by have⟨g,wr,s⟩:=e;cases g with
 |cell a=>have⟨b,l,d,_⟩:=h;refine⟨λx f=>?_,λad c=>(by cases c),by simp[aI],by simp[aI]⟩;simp[aI,cd,ay]at f;subst f;exact⟨a.block,b,l,rfl,d⟩|obj r=>
  have⟨b,l,d,_⟩:=h;by_cases j:wr=E/\s=E
  .obtain⟨rfl,rfl⟩:=j;exact⟨λx f=>(by cases f),λad c=>(by cases c),by simp[aI],by simp[aI]⟩
  .have e:aI ⟨.obj r,wr,s⟩=.access ⟨.obj r,wr,s⟩:=by cases wr<;>cases s<;>first|rfl|cases j ⟨rfl,rfl⟩
   refine⟨λx f=>?_,λad c=>Y7,(by rw[e];simp),(by rw[e];simp)⟩;rw[e]at f;simp[cd,ay]at f;subst f;exact⟨r,b,l,rfl,d⟩|mark m=>cases m<;>first|(cases h;done)|exact⟨λx f=>by simp[aI,cd]at f,λad c=>by simp[aI]at c,by simp[aI],by simp[aI]⟩
 |output=>cases h|goroutines=>cases h
structure Wv(W0:V)(dead:Nat->Prop)(wg w:V)(R:BR):Prop where
 h:HR R wg w
 rn:∀a b l,R a b l->¬dead b/\(b<W0.heap.size->Fz wg a)gf:GlF wg
 gl:∀g,Nat.blt g nGl=E->∃l,R g g l/\l<=1
 dl:∀b,dead b->b<w.heap.size
 wz:W0.heap.size<=w.heap.size
variable{N:al}{L:List ag}
def zbv.wv{c:ag}{b:V}{a:ag}{d:List ag}{w:V}(h:zbv N W0 dead c L b a d w R):Wv W0 dead b w R:=⟨h.h,h.rn,h.gf,h.f.gl,h.dl,h.wz⟩
def Wv.at{a w:V}{R:BR}(h:Wv W0 dead a w R)(d:Nat):Wv W0 dead a (w.at d) R:=⟨⟨h.h.inj,h.h.obj,h.h.kinds⟩,h.rn,h.gf,h.gl,h.dl,h.wz⟩
def Wv.rt{b:ag}{c:V}{a:ag}{d:List ag}{w:V}(h:Wv W0 dead c w R)(f:u2 N R b a)(l:IJ N R L d):zbv N W0 dead b L c a d w R:=⟨f,l,h.h,h.rn,h.gf,h.dl,h.wz⟩
def Wv.run{N:al}{S w O:V}{R:BR}{α β:Type}{A:BR->α->β->Prop}{s:Sem α}{X:Sem β}{a:α}{Z:Array bB}(h:Wv W0 dead S w R)(hs:SR N prog A R s X)(u:∀T d,s.runT N (World.on S T d) #[]=(.ok a (World.on O T d),Z))(d:Nat):∃b w1 P i,X.runT prog (w.at d) #[]=(.ok b w1,P)/\A i a b/\R.le i/\Wv W0 dead O w1 i/\(∀fn,UJ W0 dead (w.at d) w1 (seen prog fn P))/\∀b,b<w.heap.size->(∀a l,¬R a b l)->w1.heap[b]?=w.heap[b]?:=by
 have W:=u w.tape d;have⟨_,b,w1,P,i,v,y,n,c,B⟩:=hs.run (World.on S w.tape d) (w.at d) #[] #[] a (World.on O w.tape d) Z ⟨h.h.inj,h.h.obj,h.h.kinds⟩ W 0 (by simp[World.on]) (λj q hj=>Y0);have p:w.heap.size<=w1.heap.size:=by have:=c.Ak;show(w.at d).heap.size<=_;omega
 have m:∀a b l,i a b l->¬dead b/\(b<W0.heap.size->Fz O a):=λa b l r=>by
  rcases c.new a b l r with r|⟨k,I,K,J⟩;.exact⟨(h.rn a b l r).1,λf=>qw c r ((h.rn a b l r).2 f)⟩
  .have D:b=w.heap.size+k:=K;have:=h.wz;exact⟨λhd=>by have:=h.dl b hd;omega,λf=>Y0⟩
 refine⟨b,w1,P,i,by rw[v];simp,y,c.le,⟨⟨n.inj,n.obj,n.kinds⟩,m,λg o=>let⟨l,r,_⟩:=h.gl g o;qw c r (h.gf g o),λg o=>let⟨l,r,z⟩:=h.gl g o;⟨l,c.le _ _ _ r,z⟩,λb f=>aO (h.dl b f) p,bw h.wz p⟩,λfn=>⟨p,λb f=>?_,c.os,c.output,λe L=>?_⟩,λb f Q=>c.rest b f Q⟩
 .by_cases Q:∃a l,R a b l
  .have⟨a,l,r⟩:=Q;exact(c.fz _ _ _ r ((h.rn a b l r).2 f)).2
  .exact c.rest b (aO f h.wz) λa l r=>Q ⟨a,l,r⟩
 .have⟨k1,F,k3,G⟩:=Ge (B e (Conc.mem_seen L));refine⟨λx W=>?_,F,k3,G⟩;have⟨b,a,l,M,t⟩:=k1 x W;exact⟨b,M,(m a b l t).1,(n.lt t).2⟩
def Jq{P:al}{b:Bool}{f:ag}{w:V}{o:Oper}(m:f.mode=.run)(r:f.roundOf=U)(a:YV f=C o):bg P b (G f L) w=cD P E f L U (aG f.eval o) w:=by
 unfold YV at a;split at a
 .rename_i ops i rest k t;split at a
  .rename_i hw;have h:f.oper?=C o:=by simp[AO,t,a]
   simp[bg,G,m,bT,t,hw,if_true,EX,h,r]
  .cases a
 .cases a
def Pd{I wg1:V}{o:Oper}{s:Sem Next}{n:Next}{es:Array bB}(h:Wv W0 dead I w R)(z:x.1.mode=.run)(j:(x.1.kind==jW)=H)(r:x.1.roundOf=U)(J:YV x.1=C o)(K:SR N prog (NR N) R s (aG x.1.eval o))(B:∀T d,s.runT N (World.on I T d) #[]=(.ok n (World.on wg1 T d),es))(L:(∃v,n=.value v)\/n=.skip)(k:∀F w1 c,(∀v,n=.value v->VR c v F)->(n=.skip->F=undef)->R.le c->Wv W0 dead wg1 w1 c->(∀b,b<w.heap.size->(∀a l,¬R a b l)->w1.heap[b]?=w.heap[b]?)->Sg W0 dead A m (x.1.finish F,x.2) w1):Sg W0 dead A (m+1) x w:=nS rfl λM⟨d,e⟩=>by
 subst e;have⟨D,w1,f,c,g,p,q,t,u,y⟩:=h.run K B d;rw[Sem.runT_eq,aX]at g;rw[Jq z r J];rcases L with⟨v,rfl⟩|rfl;.cases p with|@value _ F O=>
   have i:cD prog E x.1 x.2 U (aG x.1.eval o) (w.at d)=.go (G (x.1.finish F) x.2) w1 (seen prog x.1.fn f):=by simp[cD,g.1,g.2,j,bP,G]
   rw[i];exact⟨u _,k F w1 c (λv e=>Y7) Y9 q t y⟩
 .cases p;have i:cD prog E x.1 x.2 U (aG x.1.eval o) (w.at d)=.go (G (x.1.finish undef) x.2) w1 (seen prog x.1.fn f):=by simp[cD,g.1,g.2,j,bP,G]
  rw[i];exact⟨u _,k undef w1 c (λv e=>by cases e) (λ_=>rfl) q t y⟩
end
end Rn
namespace Rn
open Go Go.Conc Go.ConcM
open Go.ConcN(sumTo upd upd_same upd_ne sumTo_congr sumTo_upd)
open Go.ConcR(KK WgAt stA smA rd wr mk DC0)
inductive wT(P:al)(O:ag->List ag->V->(ag->List ag->V->Prop)->Prop)(Fin:Y->V->Prop):Rk->ag->List ag->V->Prop|mk{r:Rk}{fr:ag}{L:List ag}{w:V}(ρ:ag->List ag->V->Rk)(ok:∀T d,(∃v w1 es,dc P fr L (World.on w T d)=.ret v w1 es/\Fin v w1)\/∃fr1 L1 w1 es acts,dc P fr L (World.on w T d)=.next fr1 L1 w1 es acts)(lt:∀fr1 L1 w1,Rk.lt (ρ fr1 L1 w1) r)(nx:∀T d fr1 L1 w1 es acts,dc P fr L (World.on w T d)=.next fr1 L1 w1 es acts->wT P O Fin (ρ fr1 L1 w1) fr1 L1 w1):wT P O Fin r fr L w|ask{r r1:Rk}{fr:ag}{L:List ag}{w:V}(S:ag->List ag->V->Prop)(h:O fr L w S)(h1:Rk.lt r1 r)(ρ:ag->List ag->V->Rk)(lt:∀fr1 L1 w1,Rk.lt (ρ fr1 L1 w1) r1)(k:∀fr1 L1 w1,S fr1 L1 w1->ou P ⟨fr1,L1,w1⟩->wT P O Fin (ρ fr1 L1 w1) fr1 L1 w1):wT P O Fin r fr L w
def Rk.bot:Rk:=.nd Empty (λx=>x.elim)
def zba{P:al}{O:ag->List ag->V->(ag->List ag->V->Prop)->Prop}{Fin:Y->V->Prop}{e:ag}{L:List ag}{w:V}(h:fG P O Fin e L w):∃r,wT P O Fin r e L w:=by have c:∀(f:ag->List ag->V->Rk->Prop),∃ρ:ag->List ag->V->Rk,∀a b w1,(∃r,f a b w1 r)->f a b w1 (ρ a b w1):=λf=>⟨λa b w1=>open Classical in if h:∃r,f a b w1 r then dP h else Rk.bot,λa b w1 h=>by grind⟩;obtain⟨ρ,hρ⟩:=c λa b w1 r=>wT P O Fin r a b w1;induction h with|@mk e L w ok n i=>exact⟨.nd (ag×List ag×V) (λp=>ρ p.1 p.2.1 p.2.2),.mk ρ ok (λa b w1=>⟨(a,b,w1),rfl⟩) λT d a b w1 es acts s=>hρ _ _ _ (i T d a b w1 es acts s)⟩|@ask e L w S h k i=>exact⟨.nd Unit (λ_=>.nd (ag×List ag×V) (λp=>ρ p.1 p.2.1 p.2.2)),.ask S h ⟨(),rfl⟩ ρ (λa b w1=>⟨(a,b,w1),rfl⟩) λa b w1 s g=>hρ _ _ _ (i a b w1 s g)⟩
abbrev UP(w:V):BR:=λa b l=>a=b/\l=0/\rO w a
abbrev dsF(N:al)(cs:Array Y):ag:=aF N 128 #[.agg cs] .normal
def zdJ(N:al)(m:ag)(L:List ag)(w:V)(S:ag->List ag->V->Prop):Prop:=∃(b:ag)(a:Act)(j:Array Oper)(i:Nat)(r:List Nat)(n:List mZ)(o:Oper)(x:aU)(k:Array ah)(h iR:Array Y),m=b.at a (.inRegion j (i::r)::n)/\j[i]?=C o/\ar o (yielded j a.tmps)=E/\o.op=.call {callee:=.value (.func 104),args:=#[x],argTypes:=k}/\oC x=E/\a.eval x=.agg (h++iR)/\(h.size=22/\iR.size=22/\h.all nF=E/\iR.all nF=E)/\AV (UP w) h h/\AV (UP w) iR iR/\fG N (λ_ _ _ _=>False) Lb (dsF N h) [] (UK w)/\fG N (λ_ _ _ _=>False) Lb (dsF N iR) [] (UK w)/\S=λl p w1=>p=L/\∃T d D9 q y e c f g,Wh N (dsF N h) (World.on w T d) (.tuple #[.agg D9,q,y]) e/\Wh N (dsF N iR) e (.tuple #[.agg c,f,g]) w1/\D9.size=22/\c.size=22/\l=m.finish (.agg (D9++c))
def zu6{N:al}(y:ag)(L:List ag)(w:V)(S:ag->List ag->V->Prop)(T:Nat->Question->Nat)(d:Nat)(h:zdJ N y L w S):zdJ N y L (World.on w T d) S:=by have⟨b,a,t,i,s,z,o,x,u,v,iR,g,j,k,l,m,n,p,q,r,c,e,f⟩:=h;exact⟨b,a,t,i,s,z,o,x,u,v,iR,g,j,k,l,m,n,p,q,r,c.on (λ_ _ _ _ _ _ h=>h) T d,e.on (λ_ _ _ _ _ _ h=>h) T d,f⟩
def Ask(N:al)(f:ag)(L:List ag)(w:V)(S:ag->List ag->V->Prop):Prop:=zdJ N f L w S\/Seg N f L w S
def zq7{N:al}(a:ag)(L:List ag)(w:V)(S:ag->List ag->V->Prop)(T:Nat->Question->Nat)(d:Nat)(h:Ask N a L w S):Ask N a L (World.on w T d) S:=h.imp (zu6 a L w S T d) λh W dead b c w' R k=>h W dead b c w' R ⟨k.f,k.l,⟨k.h.inj,k.h.obj,k.h.kinds⟩,k.rn,k.gf,k.dl,k.wz⟩
def qY(P:al)(g g':av)(w':V):Wk w' (woken P g g' w'):=λo=>by
 unfold woken;split;.simp_all
 .simp_all
def vH(P:al)(gs:Array av)(t:nb)(Lv:Nat->Prop)(q:Nat->Nat):Prop:=∀i g,i≠0->¬Lv i->gs[i]?=C g->∃d,lR P (q i) d g/\Deaf t i=d
section
variable{P:al}{gs gs':Array av}{t u:nb}{Lv Lv':Nat->Prop}{q:Nat->Nat}{w w':V}{k:Nat}{g g':av}{es:Array bB}{acts:List ic}
def vH.app(h:vH P gs t Lv q)(e:∀op∈u,op.g=k)(a:k=0\/Lv k):vH P gs (t++u) Lv q:=λi g b l c=>by have⟨d,f,j⟩:=h i g b l c;refine⟨d,f,?_⟩;have n:k≠i:=Y8;rw[l1 t n u e];exact j
variable{n:Nat}{f:av->av}
def zcR{d:Nat}{g:av}(q:lR P n d g)(h:Wk w' f):f g=g:=by
 rcases h g with e|e;.exact e
 .rw[e];exact vW _ q.status
def qV(i:Nat)(h:i≠k):((gs.map f).setIfInBounds k g')[i]?=(gs[i]?).map f:=by grind
def eO(h:k<gs.size):((gs.map f).setIfInBounds k g')[k]?=C g':=by simp[h]
def vH.move(h:vH P gs t Lv q)(l:Wk w' f)(a:k=0\/Lv k):vH P ((gs.map f).setIfInBounds k g') t Lv q:=λi g b e c=>by have n:i≠k:=Y8;rw[qV i n]at c;obtain⟨p,m,rfl⟩:=ak.1 c;have⟨d,j,o⟩:=h i p b e m;rw[zcR j l];simp_all
def vH.more(h:vH P gs t Lv q){d:Nat}(m:k≠0)(b:∀g,gs[k]?=C g->lR P n d g/\Deaf t k=d)(L:∀i,Lv i->Lv' i\/i=k):vH P gs t Lv' (upd q k n):=λi g c o a=>by
 by_cases e:i=k
 .subst e;have⟨f,j⟩:=b g a;exact⟨d,by rw[kL];exact f,j⟩
 .rw[xW q n e];exact h i g c (λl=>by grind) a
def vH.sub(h:vH P gs t Lv q)(L:∀i,Lv i->Lv' i):vH P gs t Lv' q:=λi g a n b=>h i g a (λl=>n (L i l)) b
def EO{d:Nat}(q:lR P n d g)(r:g.status=.running):∃m g' es,n=m+1/\(∀e∈es,EC e=E)/\(∀w,bg P H g w=.go g' w es)/\lR P m (cu d es) g':=by cases n with|zero=>exact absurd (r.symm.trans q.1) Y5|succ m=>
 rcases q with⟨h,_⟩|⟨_,g',es,a,b,c⟩;.simp_all
 .grind
def yi{e:bB}(h:EC e=E):(aI e).touch?=U/\∀a,aI e≠.mark (.release a):=by have⟨l,wr,s⟩:=e;cases l with|mark m=>cases m<;>simp_all[EC,aI,cd]|_=>simp[EC]at h
end
end Rn
namespace Rn
open Go Go.Conc Go.ConcM
open Go.ConcN(sumTo upd upd_same upd_ne sumTo_congr sumTo_upd Deaf_still)
open Go.ConcR(KK WgAt stA smA rd wr mk DC0)
def DdL(dead:Nat->Prop)(l:Loc):Prop:=∃b,s5 l=C b/\dead b
def noL:Loc->Prop:=λ_=>False
def onL:Nat->Loc->Prop:=λ_ _=>False
def Lh(dead:Nat->Prop)(g:Nat)(l:Loc):Prop:=g=0/\¬DdL dead l
def zic(dead:Nat->Prop):zmm noL (Lh dead) onL:=⟨λ_ _ _ h k=>h.1.trans k.1.symm,λ_ _ _ _ k=>k.elim,λ_ _ _ h=>h,λ_ _ h=>h.elim⟩
def Zc(Fin:Y->V->Prop)(W0:V)(a:Y)(W:V):Prop:=∃v w1 R,Fin v w1/\VR R v a/\HR R w1 W/\(∀b,b<W0.heap.size->W.heap[b]?=W0.heap[b]?)/\W0.heap.size<=W.heap.size/\oM W0.os W.os/\W.output=W0.output
structure CB(W0:V)(dead:Nat->Prop)(gs:Array av)(w:V)(t:nb):Prop where
 old:∀b,b<W0.heap.size->w.heap[b]?=W0.heap[b]?
 size:W0.heap.size<=w.heap.size
 bnd:∀i x,qA t i=C x->∀b,s5 x.loc=C b->b<w.heap.size
 dlt:∀b,dead b->b<w.heap.size/\W0.heap.size<=b
 ids:∀(i:Nat)op,t[i]?=C op->op.g<gs.size
 os:oM W0.os w.os
 output:w.output=W0.output
structure PB(W0:V)(q:Nat->Nat)(dead:Nat->Prop)(gs:Array av)(w:V)(t:nb)(g0:av):Prop where
 main:gs[0]?=C g0
 run:g0.status=.running
 deaf:Deaf t 0=0
 lv:vH prog gs t (λ_=>False) q
 cb:CB W0 dead gs w t
 ti:TI noL (DdL dead) (λ_=>False) (Lh dead) onL t
structure PA(N:al)(Fin:Y->V->Prop)(W0:V)(rk:Rk)(q:Nat->Nat)(dead:Nat->Prop)(gs:Array av)(w:V)(t:nb)(fr:ag)(L:List ag)(wg:V)(cm:ag)(L':List ag)(R:BR):Prop where
 b:PB W0 q dead gs w t (G cm L')tree:wT N (Ask N) Fin rk fr L wg
 f:u2 N R fr cm
 l:IJ N R L L'
 h:HR R wg w
 rn:∀a b l,R a b l->¬dead b/\(b<W0.heap.size->Fz wg a)gf:GlF wg
section
variable{N:al}{Fin:Y->V->Prop}{W0:V}{rk:Rk}{q:Nat->Nat}{dead:Nat->Prop}{gs:Array av}{w w':V}{t u:nb}{fr:ag}{L:List ag}{wg:V}{cm:ag}{L':List ag}{R:BR}{sl:Option (Nat×Nat)}
def CB.at(h:CB W0 dead gs w t)(d:Nat):CB W0 dead gs (w.at d) t:=⟨h.old,h.size,h.bnd,h.dlt,h.ids,h.os,h.output⟩
def HR.at(h:HR R wg w)(d:Nat):HR R wg (w.at d):=⟨h.inj,h.obj,h.kinds⟩
def PB.at{g0:av}(h:PB W0 q dead gs w t g0)(d:Nat):PB W0 q dead gs (w.at d) t g0:=⟨h.main,h.run,h.deaf,h.lv,h.cb.at d,h.ti⟩
def PA.at(h:PA N Fin W0 rk q dead gs w t fr L wg cm L' R)(d:Nat):PA N Fin W0 rk q dead gs (w.at d) t fr L wg cm L' R:=⟨h.b.at d,h.tree,h.f,h.l,h.h.at d,h.rn,h.gf⟩
def CB.step(h:CB W0 dead gs w t){gs':Array av}(z:w.heap.size<=w'.heap.size)(j:∀b,b<W0.heap.size->w'.heap[b]?=w.heap[b]?)(f:gs.size<=gs'.size)(e:oM w.os w'.os)(o:w'.output=w.output)(m:∀op∈u,op.g<gs'.size/\∀x,op.act.touch?=C x->∀b,s5 x.loc=C b->b<w'.heap.size):CB W0 dead gs' w' (t++u):=by
 refine⟨λb a=>(j b a).trans (h.old b a),bw h.size z,λi x k b a=>?_,λb a=>⟨aO (h.dlt b a).1 z,(h.dlt b a).2⟩,λi op l=>?_,h.os.trans e,o.trans h.output⟩
 .have⟨op,j,d⟩:=touch_of k;rcases dW j with⟨_,c⟩|⟨_,c⟩;.exact aO (h.bnd i x (by rw[touchAt_of c];exact d) b a) z
  .grind
 .rcases dW l with⟨_,c⟩|⟨_,c⟩;.exact aO (h.ids i op c) f
  .simp_all
def zrO(i:Nat)(g:av)(es:Array bB):jQ i g es []=cM i g.frame.fn g.frame.place es:=Cz
def left(n:Nat)(q:Nat->Nat):Nat:=4*sumTo n q
def Xm{n i m:Nat}(a:i<n)(h:q i=m+1):left n (upd q i m)+4=left n q:=by have:sumTo n (upd q i m)+q i=sumTo n q+m:=sumTo_upd q m id a;unfold left;omega
variable{g:av}
def eY{f:av->av}{k:Nat}:((gs.map f).setIfInBounds k g).size=gs.size:=Y1
def tq{g:Nat}{fn:FuncId}{pos:String}{b:Array bB}{op:MemOp}(h:op∈cM g fn pos b):∃e∈b,op={g,fn,pos,act:=.ofEvent e}:=by rw[ofEvents_eq]at h;obtain⟨e,a,rfl⟩:=Array.mem_map.1 h;grind
def PB.I7{g0:av}(h:PB W0 q dead gs w t g0){i:Nat}(G:i≠0)(c:gs[i]?=C g)(M:g.status=.running):∃p I r D,runT prog (crowd gs w sl) i=(.next p,I)/\p=crowd D w sl/\D.size=gs.size/\PB W0 r dead D w (t++I) g0/\left gs.size r<left gs.size q:=by
 have⟨d,u,v⟩:=h.lv i g G id c;have⟨m,J,K,y,s,z,A⟩:=EO u M;have l:=(ab.1 c).1;have a:=qY prog g J w;have o:∀op∈cM i g.frame.fn g.frame.place K,op.g=i:=Go.ConcR.g_of_ofEvents;have f:woken prog g J w g0=g0:=by
  rcases a g0 with e|e;.exact e
  .rw[e];exact vW _ (.inl h.run)
 refine⟨_,_,upd q i m,_,gr (sl:=sl) c (by rw[show(i==0)=H by simpa using G];exact z w),rfl,eY,⟨?_,h.run,?_,?_,?_,?_⟩,by have:=Xm l y;omega⟩
 .rw[qV 0 (cA G),h.main];simp_all
 .rw[l1 t G _ o];exact h.deaf
 .have B:vH prog ((gs.map (woken prog g J w)).setIfInBounds i J) t (λj=>j=i) q:=(h.lv.sub (λ_ x=>x.elim)).move a (.inr rfl);have n:=B.app o (.inr rfl);refine n.more (d:=cu d K) G (λO b=>?_) (λj N=>.inr N);rw[eO l]at b;cases b;exact⟨A,by rw[Deaf_own,v]⟩
 .refine h.cb.step (ao _) (λ_ _=>rfl) (cI eY.symm) (.refl _) rfl λop F=>⟨Y7,λx L=>?_⟩;obtain⟨e,k,rfl⟩:=tq F;rw[(yi (s e k)).1]at L;cases L
 .refine h.ti.zqt o λop F=>?_;obtain⟨e,k,rfl⟩:=tq F;exact yi (s e k)
def PB.all(h:PB W0 q dead gs w t g):∀o∈gs,o.status=.running\/o.status=.finished:=by
 intro o c;have⟨i,b⟩:=eA.1 c;by_cases e:i=0
 .subst e;rw[h.main]at b;cases b;exact .inl h.run
 .have⟨d,a,_⟩:=h.lv i o e id b;exact a.status
def PB.free(h:PB W0 q dead gs w t g):∀o∈gs,o.status≠.blocked\/o.offers=U:=λo a=>.inl λe=>by rcases h.all o a with k|k<;>rw[k]at e<;>cases e
def PB.awake{a:av}(h:PB W0 q dead gs w t a):∀g∈gs,Go.Conc.awake g:=by intro o b d;rcases h.all o b with e|e<;>rw[e]<;>simp
def PB.go{p g1:av}{v:Array bB}(h:PB W0 q dead gs w t p)(s:bg prog E p w=.go g1 w' v)(i:UJ W0 dead w w' v)(f:g1.status=.running):∃m r n,runT prog (crowd gs w sl) 0=(.next m,r)/\m=crowd n w' sl/\n.size=gs.size/\PB W0 q dead n w' (t++r) g1:=by
 have d:=(ab.1 h.main).1;have c:=qY prog p g1 w';have o1:∀op∈cM 0 p.frame.fn p.frame.place v,op.g=0:=Go.ConcR.g_of_ofEvents;refine⟨_,_,_,gr (sl:=sl) h.main s,rfl,eY,eO d,f,?_,(h.lv.move c (.inl rfl)).app o1 (.inl rfl),?_,h.ti.app (zic dead) (.inl rfl) λop o=>?_⟩
 .rw[Deaf_still _ _ _ λop o=>?_];.exact h.deaf
  .obtain⟨e,a,rfl⟩:=tq o;exact(i.ev e a).2.2
 .refine h.cb.step i.size i.old (cI eY.symm) (by rw[i.os];exact .refl _) i.output λop o=>⟨Y7,λx y b j=>?_⟩;obtain⟨e,a,rfl⟩:=tq o;have⟨z,u,_,k3⟩:=(i.ev e a).1 x y;rw[j]at u;cases u;exact k3
 .obtain⟨e,a,rfl⟩:=tq o;refine⟨rfl,(i.ev e a).2.1,λx y=>.inr (.inl ⟨rfl,λ⟨z,u,k⟩=>?_⟩)⟩;have⟨b,k3,l,_⟩:=(i.ev e a).1 x y;rw[u]at k3;cases k3;exact l k
end
end Rn
namespace Rn
open Go Go.Conc Go.ConcM
open Go.ConcN(sumTo upd upd_same upd_ne sumTo_congr sumTo_upd runT_crowd_ended Deaf_still)
open Go.ConcR(KK WgAt stA smA rd wr mk DC0)
def zkv{P:al}{fr:ag}{w w1:V}{v:Y}{es:Array bB}(k:fr.kind=.normal)(wR:P.inits.idxOf? fr.fn=U)(h:dc P fr [] w=.ret v w1 es):bg P E (G fr []) w=.ended (.done v) w1 es:=by unfold dc at h;cases m:fr.mode with
 |panicking c=>rw[m]at h;cases h|run=>
  rw[m]at h;simp  at h;unfold zJ Ea YK at h;revert h;repeat' split
  all_goals intro h
  all_goals first |(cases h;done)|skip
  all_goals
   unfold jK at h;revert h;repeat' split
   all_goals intro h
   all_goals cases h|returning=>rw[m]at h;simp  at h;unfold pC at h;cases hd:fr.defers with
  |cons d b=>
   rw[hd]at h;revert h;repeat' split
   all_goals intro h
   all_goals first |(cases h;done)|contradiction
  |nil=>rw[hd]at h;simp only at h;cases f:P.funcs[fr.fn]? with |none=>rw[f]at h;cases h|some fn=>rw[f]at h;simp only at h;cases a:(results fn fr.tmps).runT P w #[]with|mk r e=>rw[a]at h;cases r with|halt x w1=>cases h|ok v1 w2=>simp[LR.ret.injEq]at h;obtain⟨rfl,rfl,rfl⟩:=h;simp[Sem.runT_eq,aX]at a;simp[bg,G,m,unwind,hd,f,a.1,a.2,bP,qT,k,wR]
def zcU{P:al}{fr:ag}{L:List ag}{w w1:V}{v:Y}{e:Array bB}(h:dc P fr L w=.ret v w1 e):fr.defers=[]:=by unfold dc at h;cases m:fr.mode with
 |panicking c=>rw[m]at h;cases h|run=>
  rw[m]at h;simp  at h;unfold zJ Ea YK at h;revert h;repeat' split
  all_goals intro h
  all_goals first|(cases h;done)|skip
  all_goals
   unfold jK at h;revert h;repeat' split
   all_goals intro h
   all_goals cases h|returning=>rw[m]at h;simp  at h;unfold pC at h;cases hd:fr.defers with
  |cons d a=>
   rw[hd]at h;revert h;repeat' split
   all_goals intro h
   all_goals first |(cases h;done)|contradiction
  |nil=>rfl
section
variable{N:al}{Fin:Y->V->Prop}{W0:V}{rk:Rk}{q:Nat->Nat}{dead:Nat->Prop}{gs:Array av}{w w':V}{t u:nb}{fr:ag}{L:List ag}{wg:V}{cm:ag}{L':List ag}{R:BR}{sl:Option (Nat×Nat)}
def zaa{r:BR}{zDM:V}{g:av}{p:Array bB}{acts:List ic}{W:V}(R:HR r zDM W)(t:∀a b l,r a b l->¬dead b){Rk Wk:BR}{wk:V}(d:∀e∈p,SI Rk wk r e)(q:∀a∈acts,zhv Wk a):(∀op∈jQ 0 g p acts,op.g=0)/\(∀op∈jQ 0 g p acts,OkT noL (Lh dead) onL 0 op)/\(∀op∈jQ 0 g p acts,op.act≠.mark .disable/\op.act≠.mark .enable)/\∀op∈jQ 0 g p acts,∀x,op.act.touch?=C x->∀b,s5 x.loc=C b->b<W.heap.size:=by
 refine⟨λop o=>(fy o).1,λop o=>⟨(fy o).1,?_,?_⟩,λop o=>?_,λop o x n b j=>?_⟩
 .rcases(fy o).2 with⟨e,h,c⟩|⟨a,h,c⟩;.rw[c];exact(Ge (d e h)).2.1
  .rw[c];exactλad=>(w7 (q a h)).2 _
 .intro x n;rcases(fy o).2 with⟨e,h,c⟩|⟨a,h,c⟩;.rw[c]at n;have⟨b,a,l,f,i⟩:=(Ge (d e h)).1 x n;refine .inr (.inl ⟨rfl,λ⟨s,k,m⟩=>?_⟩);rw[f]at k;cases k;grind
  .rw[c,(w7 (q a h)).1]at n;cases n
 .rcases(fy o).2 with⟨e,h,c⟩|⟨a,h,c⟩;.rw[c];exact(Ge (d e h)).2.2
  .rw[c];exact⟨(w7 (q a h)).2 _,(w7 (q a h)).2 _⟩
 .rcases(fy o).2 with⟨e,h,c⟩|⟨a,h,c⟩
  .rw[c]at n;have⟨s,a,l,f,i⟩:=(Ge (d e h)).1 x n;rw[f]at j;cases j;exact(R.lt i).2
  .rw[c,(w7 (q a h)).1]at n;cases n
def PA.next(g:PG N prog)(gp:GP N)(h:PA N Fin W0 rk q dead gs w t fr L wg cm L' R){j:Rk}{J:ag}{T:List ag}{w1:V}{es:Array bB}{M:List ic}(hs:dc N fr L (World.on wg w.tape w.drawn)=.next J T w1 es M)(ht:wT N (Ask N) Fin j J T w1):∃p O,runT prog (crowd gs w sl) 0=(.next p,O)/\∃K W c e R',p=crowd K W sl/\K.size=gs.size/\PA N Fin W0 j q dead K W (t++O) J T w1 c e R':=by
 have Z:=sim g gp h.f h.l (h.h.on w.tape w.drawn) (U6 wg w);rw[hs]at Z;have⟨c,e,W,x,o,R',y,k1,z,k3,d,A,B⟩:=Z;have S:=zft (P:=prog) (main:=E) (L:=L') (w:=w) h.f.pE h.f.lT;rw[y]at S;have mv:=Qu (cs:=[]) S;simp[eu]at mv;have⟨f,i,_,Q⟩:=Ot (sl:=sl) h.b.main h.b.free mv;have s:w.heap.size<=W.heap.size:=by have:=d.Ak;omega
 have u:=(ab.1 h.b.main).1;have m:∀a b l,R' a b l->¬dead b/\(b<W0.heap.size->Fz w1 a):=λa b l r=>by
  rcases d.new a b l r with r|⟨k,D,I,F⟩;.exact⟨(h.rn a b l r).1,λn=>qw d r ((h.rn a b l r).2 n)⟩
  .refine⟨λS=>by have:=(h.b.cb.dlt b S).1;omega,λn=>by have:=h.b.cb.size;omega⟩
 have⟨o1,o2,o3,o4⟩:=zaa (g:=G cm L') k3 (λa b l r=>(m a b l r).1) A B;refine⟨_,_,Q,_,W,c,e,R',rfl,eY,⟨eO u,rfl,?_,(h.b.lv.move i (.inl rfl)).app o1 (.inl rfl),?_,h.b.ti.app (zic dead) (.inl rfl) o2⟩,ht,k1,z,k3,m,λg v=>let⟨l,r,_⟩:=h.f.gl g v;qw d r (h.gf g v)⟩;.rw[Deaf_still _ _ _ o3];exact h.b.deaf
 .refine h.b.cb.step s (λb n=>?_) (cI eY.symm) (by rw[d.os];exact .refl _) d.output λop X=>⟨Y7,o4 op X⟩;by_cases hr:∃a l,R a b l
  .have⟨a,l,r⟩:=hr;exact(d.fz _ _ _ r ((h.rn a b l r).2 n)).2
  .exact d.rest b (aO n h.b.cb.size) λa l r=>hr ⟨a,l,r⟩
def PA.fin(g:PG N prog)(gp:GP N)(wR:∀f fn,N.funcs[f]?=C fn->fn.body.isSome=E->prog.inits.idxOf? f=U)(h:PA N Fin W0 rk q dead gs w t fr L wg cm L' R){v:Y}{w1:V}{es:Array bB}(hs:dc N fr L (World.on wg w.tape w.drawn)=.ret v w1 es)(Q:Fin v w1)(m:Machine)(p:m.gs=gs/\m.rest.timers=#[]):∃o W Z,runT prog (crowd gs w sl) 0=(.ended o W,Z)/\Conc.Good prog (Zc Fin W0) m o W (t++Z):=by
 have s1:=sim g gp h.f h.l (h.h.on w.tape w.drawn) (U6 wg w);rw[hs]at s1;have⟨v',W,e,A,B,k1,k3,c,F⟩:=s1;have X:=zft (P:=prog) (main:=E) (L:=L') (w:=w) h.f.pE h.f.lT;rw[B]at X;have⟨S,_⟩:=X;subst S;have⟨fn,j,zyv⟩:=h.f.has;have s:=zkv h.f.pE (h.f.fn▸wR _ fn j (zyv.resolve_right λ⟨d,X,_⟩=>by rw[zcU hs]at X;cases X)) B;have u:w.heap.size<=W.heap.size:=by have:=c.Ak;omega
 have x:∀a b l,A a b l->¬dead b:=λa b l r=>by
  rcases c.new a b l r with r|⟨k,K,M,O⟩;.exact(h.rn a b l r).1
  .exactλX=>by have:=(h.b.cb.dlt b X).1;omega
 have⟨o1,o2,o3,o4⟩:=zaa (g:=G cm []) (acts:=[]) k3 x F (Wk:=R) Y1;rw[zrO]at o1 o2 o3 o4;have n:=h.b.ti.app (zic dead) (.inl rfl) o2;have hold:∀b,b<W0.heap.size->W.heap[b]?=W0.heap[b]?:=λb y=>by
  refine Eq.trans ?_ (h.b.cb.old b y);by_cases hr:∃a l,R a b l
  .have⟨a,l,r⟩:=hr;exact(c.fz _ _ _ r ((h.rn a b l r).2 y)).2
  .exact c.rest b (aO y h.b.cb.size) λa l r=>hr ⟨a,l,r⟩
 refine⟨_,W,_,runT_crowd_ended (sl:=sl) h.b.main s,v',rfl,⟨v,w1,A,Q,k1,k3,hold,bw h.b.cb.size u,h.b.cb.os.trans (by rw[c.os];exact .refl _),c.output.trans h.b.cb.output⟩,n.nr,n.zrA,⟨λo ho=>?_,Y7⟩,λi o hi T=>?_⟩
 .rw[p.1]at ho;have⟨k,D⟩:=List.mem_iff_getElem?.1 ho;rw[List.getElem?_drop]at D;have⟨d,z,_⟩:=h.b.lv (1+k) o Y0 id Y7;exact⟨_,z.leaves⟩
 .rw[p.1]at hi;have⟨d,z,I⟩:=h.b.lv i o T id hi;refine⟨q i,?_⟩;have J:(t++cM 0 (G cm []).frame.fn (G cm []).frame.place e).deaf i (t++cM 0 (G cm []).frame.fn (G cm []).frame.place e).size=d:=by have:=l1 t (cA T) _ o1;exact this.trans I
  rw[J];exact z.hears _
end
end Rn
namespace Rn
open Go Go.Conc Go.ConcM
open Go.ConcN(sumTo upd upd_same upd_ne sumTo_congr sumTo_upd CTag WD Mode)
open Go.ConcR(KK WgAt stA smA rd wr mk DC0)
inductive jL where|no|live(x:Nw)(r:Rk)(bl:Bool)|gone(WS RS:Nat->Prop)
namespace jL
def ws:jL->Nat->Prop|.no=>noX|.live x _ _=>x.WS|.gone a _=>a
def rs:jL->Nat->Prop|.no=>noX|.live x _ _=>x.RS|.gone _ a=>a
def oK:jL->Prop|.live ..=>True|_=>False
def fQ(w:Bool):jL->Th|.no=>at_ .ld|.live x _ _=>if vI x.T.pc then x.T else at_ (if w then .kd else .wr)|.gone ..=>at_ (if w then .kd else .wr)
def stage:jL->Nat|.no=>0|.live x _ _=>(match x.T.pc with|.wk=>6|.d1=>5|.d2=>4|.d3=>3|.d4=>2|_=>7)|.gone ..=>1
def bit:jL->Nat|.live _ _ bl=>if bl then 0 else 1|_=>0
def Dv:jL->Bool|.no=>H|.live x _ _=>x.T.mute|.gone ..=>E
end jL
def DZ(Z:Nat->jL):Nat->WD:=λs=>⟨(Z s).stage,0,0⟩
def blk(bl:Bool)(g:av):av:=if bl then{g with status:=.blocked}else g
def lQ(b:Bool):MT->CTag|.st=>.kd|.ad _=>.kd|.go _=>.sp 0 3|.w1=>.w1|.w2 v=>.w2 v|.w3=>if b then .blk else .w3|.w4=>.w4|.aq=>.acq|.fin _ _=>.ret
def jOk:MT->Nat->Prop|.st,j=>j=0|.ad i,j=>j=i/\i<2|.go i,j=>j=i/\i<2|.fin _ _,_=>False|_,j=>j=2
def kOk(a:Nat):MT->Nat->Prop|.st,k=>3<=k|.ad _,k=>3<=k|.go _,k=>3<=k|.w1,k=>a+1<=k|.w2 v,k=>v+1<=k|_,k=>1<=k
def GS.ok3(g:GS):Bool:=!(g.a.pc==.kd&&g.b.pc==.s1&&g.s.ms==0)&&!(g.b.pc==.wr&&g.a.pc==.s1&&g.s.ms==0)
def zrW:List Nat->Bool|c::_=>GS.ok3 (GS.dec c)|_=>H
def zmN:Raw.all zrW=E:=gK
def znf{G:GS}{r:Nat}(h:InT G r):GS.ok3 G=E:=by obtain⟨c,j,m,rfl⟩:=h;exact List.all_eq_true.1 zmN _ m
variable{w:Bool}{s:Sh}
def zi7{T:Th}(p:vI T.pc=E)(h:mv w T s=[]):T.pc=.s1:=by have⟨a,o,n,b,c,it,ws⟩:=T;cases a<;>first|(cases p;done)|rfl|(simp only[mv]at h;(repeat' split at h)<;>simp at h)
def zuX{T:Th}{r:Th×Sh}(p:vI T.pc=E)(h:r∈mv w T s):r.2.wg=s.wg/\r.2.ws=s.ws:=by have⟨a,o,n,b,c,it,ws⟩:=T;cases a<;>first|(cases p;done)|(
 simp only[mv]at h;repeat' split at h
 all_goals simp[bq,cV,or_false]at h
 all_goals first|(subst h;simp_all)|(rcases h with h|h<;>(subst h;simp_all)))
def zuW{T:Th}{r:Th×Sh}(e:vI T.pc=E)(h:r∈mv w T s)(d:r.1.pc≠.bad):(vI r.1.pc=E/\OC r.1=r.1)\/(r.1=at_ (if w then .kd else .wr)/\OC r.1=at_ .wr):=by
 have b:=Xp h d;have c:zfy T.pc=E\/zhL T.pc=E:=by cases p:T.pc<;>rw[p]at e<;>first|(cases e;done)|exact .inl rfl|exact .inr rfl
 rcases c with l|u
 .rcases b.1 l with a|a;.exact .inl ⟨(zdY a).1,Ep (zdY a).2.1⟩
  .exact .inl ⟨by rw[a];rfl,by rw[a];rfl⟩
 .rcases b.2 u with a|a;.exact .inl ⟨(ziA a).1,Ep (ziA a).2.1⟩
  .exact .inr ⟨a,by rw[a];cases w<;>rfl⟩
section
variable{P:al}{g o:av}{w':V}{f:av->av}{bl:Bool}
def PZ(h:g.offers=U):(blk bl g).offers=U:=by cases bl<;>exact h
def zcj(h:g.status=.running):(blk bl g).status=if bl then .blocked else .running:=by cases bl<;>first|exact h|rfl
def Vb(h:bl=E->g.offers=U)(r:g.status=.running):(blk bl g).again w'=g:=by cases bl with|false=>exact vW _ (.inl r)|true=>have e:(blk E g).offers=U:=h rfl;rw[zch e (.inr (.inr rfl))];obtain⟨a,b,c,d⟩:=g;simp  at r;subst r;rfl
def zsj(a:Wk w' f)(h:bl=E->g.offers=U)(r:g.status=.running):∃b,f (blk bl g)=blk b g/\(b=E->bl=E):=by
 rcases a (blk bl g)with e|e;.grind
 .exact⟨H,by rw[e,Vb h r];rfl,Y9⟩
def zgX{c a:av}(m:mayWake P c=E)(b:a.status=.running)(h:bl=E->g.offers=U)(r:g.status=.running):woken P c a w' (blk bl g)=blk H g:=by unfold woken;rw[m,b];exact Vb h r
end
open Go Go.Conc Go.ConcM
open Go.ConcN(sumTo upd upd_same upd_ne sumTo_congr sumTo_upd CTag WD Mode Deaf_still)
open Go.ConcR(KK WgAt stA smA rd wr mk DC0)
def Rk.up:Rk->Rk|.nd ι f=>.nd (Option ι) (λo=>match o with|none=>Rk.bot|some i=>(f i).up)
def Rk.zvz{a b:Rk}(h:Rk.lt a b):Rk.lt a.up b.up:=by cases b with|nd ι f=>obtain⟨i,rfl⟩:=h;rw[Rk.up];exact⟨C i,rfl⟩
def Rk.zrc(b:Rk):Rk.lt Rk.bot b.up:=by cases b with|nd ι f=>rw[Rk.up];exact⟨U,rfl⟩
def jL.mr:jL->Rk|.live _ r _=>r.up|_=>Rk.bot
def zhD(b:Bool):Nat:=if b then 0 else 1
section
variable(ph:Ph)
def ShL(l:Loc):Prop:=∃b,s5 l=C b/\(b=ph.Mu\/b=ph.Wg)
def Dt(dead:Nat->Prop)(b:Nat):Prop:=dead b\/b=ph.Mu\/b=ph.Wg
def wkR(j:Nat)(fH:Nat->Nat)(k:Nat):Prop:=∃s,s<j/\k=fH s
def zqK(b:Nat)(i:Nat)(l:Loc):Prop:=∃a,l=.cell a/\a.block=ph.Bo/\b<=a.off/\a.off<i
def WR(j:Nat)(fH:Nat->Nat)(x:Nm)(Z:Nat->jL)(g:Nat)(l:Loc):Prop:=(g=0/\((∃b,s5 l=C b/\x.WS b)\/∃a,l=.cell a/\a.block=ph.Bo/\j*ph.d<=a.off))\/∃s,s<j/\g=fH s/\((∃b,s5 l=C b/\(Z s).ws b)\/zqK ph (s*ph.d) (s*ph.d+ph.d) l)
def RR(j:Nat)(fH:Nat->Nat)(x:Nm)(Z:Nat->jL)(g:Nat)(l:Loc):Prop:=(g=0/\∃b,s5 l=C b/\x.RS b)\/∃s,s<j/\g=fH s/\∃b,s5 l=C b/\(Z s).rs b
structure Mem(W0:V)(n1:Nat)(x:Nm)(Z:Nat->jL)(w:V):Prop where
 okp:ph.Ok
 shl:∀b,ph.sh b->n1<=b
 le:n1<=w.heap.size
 wn:W0.heap.size<=n1
 wm:∀b,x.WS b->n1<=b/\b<w.heap.size/\¬ph.sh b
 rm:∀b,x.RS b->b<n1
 wf:∀s b,(Z s).ws b->n1<=b/\b<w.heap.size/\¬ph.sh b
 rf:∀s b,(Z s).rs b->b<w.heap.size/\¬ph.sh b/\¬x.WS b/\∀s',¬(Z s').ws b
 mf:∀s b,x.WS b->¬(Z s).ws b
 ff:∀s s' b,(Z s).ws b->(Z s').ws b->s=s'
end
section
variable{ph:Ph}{W0:V}{n1:Nat}{x:Nm}{Z:Nat->jL}{w:V}{j:Nat}{fH:Nat->Nat}
def Mem.zmt(m:Mem ph W0 n1 x Z w):zmm (ShL ph) (WR ph j fH x Z) (RR j fH x Z):=by
 have n:∀{l:Loc}{a:bX}{b:Nat},l=.cell a->a.block=ph.Bo->s5 l=C b->ph.sh b:=by rintro l a b rfl c f;cases f;exact .inr (.inr c)
 refine⟨?_,?_,?_,?_⟩
 .rintro g g' l(⟨rfl,h⟩|⟨s,G,rfl,h⟩)(⟨rfl,k⟩|⟨s',t,rfl,k⟩);.rfl
  .exfalso;rcases h with⟨b,c,f⟩|⟨a,c,f,o⟩<;>rcases k with⟨F,D,i⟩|⟨I,D,i,k3,q⟩;.rw[c]at D;cases D;exact m.mf s' b f i
   .exact(m.wm b f).2.2 (n D i c)
   .exact(m.wf s' F i).2.2 (n c f D)
   .rw[c]at D;cases D;have:=bk ph.d (show s'+1<=j by omega);rw[fK,vi]at this;omega
  .exfalso;rcases k with⟨b,c,f⟩|⟨a,c,f,o⟩<;>rcases h with⟨F,D,i⟩|⟨I,D,i,k3,q⟩;.rw[c]at D;cases D;exact m.mf s b f i
   .exact(m.wm b f).2.2 (n D i c)
   .exact(m.wf s F i).2.2 (n c f D)
   .rw[c]at D;cases D;have:=bk ph.d (show s+1<=j by omega);rw[fK,vi]at this;omega
  .have e:s=s':=by
    rcases h with⟨b,c,f⟩|⟨a,c,f,o,B⟩<;>rcases k with⟨F,D,i⟩|⟨I,D,i,k3,q⟩;.rw[c]at D;cases D;exact m.ff _ _ _ f i
    .cases(m.wf s b f).2.2 (n D i c)
    .cases(m.wf s' F i).2.2 (n c f D)
    .rw[c]at D;cases D;rcases Nat.lt_trichotomy s s' with p|p|p
     .have:=bk ph.d (show s+1<=s' by omega);rw[fK,vi]at this;omega
     .exact p
     .have:=bk ph.d (show s'+1<=s by omega);rw[fK,vi]at this;omega
   rw[e]
 .intro g g' l h k;exfalso;have u:∃b,s5 l=C b/\n1<=b/\(x.WS b\/(∃s,(Z s).ws b)\/ph.sh b):=by
   rcases h with⟨_,⟨b,c,f⟩|⟨a,c,f,_⟩⟩|⟨s,_,_,⟨b,c,f⟩|⟨a,c,f,_⟩⟩;.exact⟨b,c,(m.wm b f).1,.inl f⟩
   .exact⟨a.block,by rw[c];rfl,m.shl _ (.inr (.inr f)),.inr (.inr (.inr (.inr f)))⟩
   .exact⟨b,c,(m.wf s b f).1,.inr (.inl ⟨s,f⟩)⟩
   .exact⟨a.block,by rw[c];rfl,m.shl _ (.inr (.inr f)),.inr (.inr (.inr (.inr f)))⟩
  have⟨b,c,f,o⟩:=u;rcases k with⟨_,F,D,i⟩|⟨s,_,_,F,D,i⟩;.rw[c]at D;cases D;have:=m.rm b i;omega
  .rw[c]at D;cases D;have⟨_,v,y,A⟩:=m.rf s b i;rcases o with o|⟨s',o⟩|o;.exact y o
   .exact A s' o
   .exact v o
 .rintro g l h⟨b,c,f⟩;have G:ph.sh b:=f.elim .inl λz=>.inr (.inl z);have r:b≠ph.Bo:=by
   rintro rfl;rcases f with f|f;.exact m.okp.mb f.symm
   .exact m.okp.wb f.symm
  rcases h with⟨_,⟨F,D,i⟩|⟨a,D,i,_⟩⟩|⟨s,_,_,⟨F,D,i⟩|⟨a,D,i,_⟩⟩;.rw[c]at D;cases D;exact(m.wm b i).2.2 G
  .rw[D]at c;cases c;exact r i
  .rw[c]at D;cases D;exact(m.wf s b i).2.2 G
  .rw[D]at c;cases c;exact r i
 .rintro g l h⟨b,c,f⟩;have G:ph.sh b:=f.elim .inl λz=>.inr (.inl z);rcases h with⟨_,F,D,i⟩|⟨s,_,_,F,D,i⟩
  .rw[c]at D;cases D;have:=m.rm b i;have:=m.shl b G;omega
  .rw[c]at D;cases D;exact(m.rf s b i).2.1 G
def zoG{c:Array Y}(h:c.size=2*ph.d):zF ph 2 c=#[]:=by unfold zF;apply iF;simp only[df,cf];rw[cK (by simp;omega)];simp
end
structure EfR(ph:Ph)(X:Nat->Prop)(s:Nat)(w w':V):Prop where
 size:w.heap.size<=w'.heap.size
 blk:∀b,b<w.heap.size->¬X b->¬ph.sh b->w'.heap[b]?=w.heap[b]?
 bo:∀cs,zx ph w cs->∃cs',zx ph w' cs'/\∀s',s'<=2->s'≠s->zF ph s' cs'=zF ph s' cs
 mu:Wf ph w->Wf ph w'
 wg:Wj ph w->Wj ph w'
 os:oM w.os w'.os
 output:w'.output=w.output
section
variable{ph:Ph}{X:Nat->Prop}{s s':Nat}{w w':V}{St:Nat->Prop}{P:al}{main:Bool}{WS RS vE:Nat->Prop}{g g':av}{es:Array bB}{acts:List ic}
def EfR.rly(e:EfR ph X s w w')(f:s'<=2)(n:s'≠s)(S:∀b,St b->b<w.heap.size/\¬X b/\¬ph.sh b):fF ph s' St w w':=⟨e.size,λb h=>e.blk b (S b h).1 (S b h).2.1 (S b h).2.2,e.mu,e.wg,λg i=>let⟨c,a,d⟩:=e.bo g i;⟨c,a,d s' f n⟩⟩
def Od(h:Sil P ph s main WS RS g w vE g' w' es acts)(l:s<=2)(r:ph.Ok)(c:∀b,ph.sh b->¬WS b):EfR ph WS s w w':=by
 have p:∀b,ph.sh b->b≠ph.Bo->∀o,w.heap[b]?=C o->w'.heap[b]?=C o:=λb d n o t=>(h.blk b (ab.1 t).1 (c b d) n).trans t;refine⟨h.size,λb d v f=>h.blk b d v λe=>f (.inr (.inr e)),λy u=>?_,λ⟨a,b,x⟩=>⟨a,b,p _ (.inl rfl) r.mb _ x⟩,λ⟨a,b,x⟩=>⟨a,b,p _ (.inr (.inl rfl)) r.wb _ x⟩,h.os,h.output⟩;have⟨q,i,j⟩:=h.bo y u;refine⟨q,i,λs' z n=>?_⟩;rcases mz s' 2 with k|m;.simp_all
 .obtain rfl:s'=2:=Y0;rw[zoG i.2,zoG u.2]
def sD{ex:Nat->Prop}(c:∀b,¬ex b->w'.heap[b]?=w.heap[b]?)(z:w'.heap.size=w.heap.size)(h:oM w.os w'.os)(o:w'.output=w.output)(d:∀b,ex b->ph.sh b)(a:¬ex ph.Bo)(m:Wf ph w->Wf ph w')(g:Wj ph w->Wj ph w'):EfR ph X s w w':=⟨cI z.symm,λb _ _ i=>c b λe=>i (d b e),λj f=>⟨j,⟨(c _ a).trans f.1,f.2⟩,λ_ _ _=>rfl⟩,m,g,h,o⟩
end
end Rn
namespace Rn
open Go Go.Conc Go.ConcM
open Go.ConcN(sumTo upd upd_same upd_ne sumTo_congr sumTo_upd CTag WD Deaf_still Vc)
open Go.ConcR(KK WgAt stA smA rd wr mk DC0)
def sA(Z:Nat->jL)(s:Nat)(z:jL):Nat->jL:=λi=>if i=s then z else Z i
def kQ(Z:Nat->jL)(s:Nat)(z:jL):sA Z s z s=z:=by simp[sA]
def qB(Z:Nat->jL){s i:Nat}(z:jL)(h:i≠s):sA Z s z i=Z i:=by simp[sA,h]
def lS(z:jL)(b:Bool):jL:=match z with|.live y r _=>.live y r b|z=>z
section
variable(z:jL)(b:Bool)
def pU:(lS z b).ws=z.ws:=by cases z<;>rfl
def pT:(lS z b).rs=z.rs:=by cases z<;>rfl
def yA:(lS z b).stage=z.stage:=by cases z<;>rfl
def tH(gj:Bool):(lS z b).fQ gj=z.fQ gj:=by cases z<;>rfl
def yz:(lS z b).Dv=z.Dv:=by cases z<;>rfl
def Jt:(lS z b).mr=z.mr:=by cases z<;>rfl
def vo:(lS z b).oK↔z.oK:=by cases z<;>exact Iff.rfl
def Ju:lS z b=.no↔z=.no:=by cases z<;>simp[lS]
def mo{z:jL}{b d:Bool}{y:Nw}{r:Rk}(h:lS z b=.live y r d):d=b/\∃bl',z=.live y r bl':=by cases z with|live a r1 c=>simp[lS,jL.live.injEq]at h;obtain⟨rfl,rfl,rfl⟩:=h;simp_all|_=>cases h
end
structure zbw(ph:Ph)(j:Nat)(T:MT)(Z:Nat->jL)(w:V)(mu ms st sm:Int)(ρ:Nat):Prop where
 mA:MuAt ph.tM ph.Mu w mu ms
 gA:WgAt ph.tW ph.Wg w st sm
 md:Go.ConcN.Mode j (DZ Z) (lQ H T) st sm
 tb:InT ⟨(Z 0).fQ E,(Z 1).fQ H,⟨mu,ms,KKi,0⟩⟩ ρ
 kk:∀s y r bl,s<j->Z s=.live y r bl->vI y.T.pc=E->ρ<y.k
structure zqi(j:Nat)(bm:Bool)(Z:Nat->jL)(mu ms sm:Int):Prop where
 hm:bm=E->sm=0
 hl:∀s y r,s<j->Z s=.live y r E->vI y.T.pc=E/\mv (s==0) y.T ⟨mu,ms,KKi,0⟩=[]
section
variable(ph:Ph)(F:Nat->(Nat->Prop)->(Nat->Prop)->V->Prop)(cF:ag)(csF:List ag)(W0:V)(dead:Nat->Prop)(n1:Nat)(R0:BR)(wg:V)(fH:Nat->Nat)
structure RI(x:Nm)(rc:Rk)(bm:Bool)(j:Nat)(Z:Nat->jL)(q:Nat->Nat)(gs:Array av)(w:V)(t:nb):Prop where
 main:gs[0]?=C (blk bm x.g)bmo:bm=E->x.T=.w3/\x.g.offers=U
 beh:BhM prog ph F cF csF rc {x with w:=w}deaf:Deaf t 0=x.d
 kz:kOk (Vc j (DZ Z)) x.T x.k
 jT:jOk x.T j
 lv:vH prog gs t (λi=>∃s,s<j/\i=fH s/\(Z s).oK) q
 no:∀s,j<=s->Z s=.no
 yes:∀s,s<j->Z s≠.no
 kd0:∀s,s<j->fH s≠0/\fH s<gs.size
 SX:∀s s',s<j->s'<j->fH s=fH s'->s=s'
 wk:∀s y r bl,s<j->Z s=.live y r bl->gs[fH s]?=C (blk bl y.g)/\(bl=E->y.g.offers=U)/\Bh prog ph s (s==0) (F s) r {y with w:=w}/\Deaf t (fH s)=y.T.deaf/\y.k≠0/\(vI y.T.pc=E\/y.T=at_ y.T.pc)rel:∀s,s<j->(Z s).Dv=E->(∃r,xT (DdL (Dt ph dead)) (stA ph.Wg) t (fH s) r)/\F s (Z s).ws (Z s).rs w
 mem:Mem ph W0 n1 x Z w
 xs:∀b,x.XS b->x.T=.st/\ph.sh b
 gh:HR R0 wg w
 gl:∀a b l,R0 a b l->b<n1
 ti:TI (ShL ph) (DdL (Dt ph dead)) (wkR j fH) (WR ph j fH x Z) (RR j fH x Z) t
 cb:CB W0 dead gs w t
 sz:x.T≠.st->∀b,ph.sh b->b<w.heap.size
 sy:x.T≠.st->∃mu ms st sm ρ,zbw ph j x.T Z w mu ms st sm ρ/\zqi j bm Z mu ms sm
end
def WV{a k:Nat}{T:MT}(h:kOk a T k):k≠0:=by cases T<;>simp[kOk]at h<;>omega
def zkm{b a k:Nat}{T:MT}(v:a<=b)(h:kOk b T k):kOk a T k:=by cases T<;>simp[kOk]at h⊢<;>omega
def I4{T:MT}{j:Nat}(h:jOk T j):j<=2:=by cases T<;>simp[jOk]at h<;>omega
def zK(r rc:Rk)(Z:Nat->jL)(n:Nat):Ms:=⟨r,rc,(Z 0).mr,(Z 1).mr,n⟩
def IN(gs:Array av)(q:Nat->Nat)(bm:Bool)(Z:Nat->jL):Nat:=left gs.size q+zhD bm+(Z 0).bit+(Z 1).bit
section
variable{ph:Ph}{F:Nat->(Nat->Prop)->(Nat->Prop)->V->Prop}{cF:ag}{csF:List ag}{W0:V}{dead:Nat->Prop}{n1:Nat}{R0:BR}{wg:V}{fH:Nat->Nat}
variable{x:Nm}{rc:Rk}{bm:Bool}{j:Nat}{Z:Nat->jL}{q:Nat->Nat}{gs:Array av}{w w':V}{t:nb}{sl:Option (Nat×Nat)}
variable{s:Nat}
def Mem.grow(m:Mem ph W0 n1 x Z w){g:Nat->jL}(u:w.heap.size<=w'.heap.size)(r:∀i,(g i).rs=(Z i).rs)(v:∀i,i≠s->(g i).ws=(Z i).ws)(y:∀b,(g s).ws b↔(Z s).ws b\/(w.heap.size<=b/\b<w'.heap.size/\¬ph.sh b)):Mem ph W0 n1 x g w':=by
 have c:∀i b,(g i).ws b->(Z i).ws b\/(i=s/\w.heap.size<=b/\b<w'.heap.size/\¬ph.sh b):=λi b a=>by
  by_cases e:i=s;.simp_all
  .simp_all
 refine⟨m.okp,m.shl,bw m.le u,m.wn,λb a=>?_,m.rm,λi b a=>?_,λi b a=>?_,λi b a k=>?_,λi f b a n=>?_⟩
 .have⟨j,l,d⟩:=m.wm b a;grind
 .rcases c i b a with h|⟨_,j,l,d⟩
  .have⟨j,l,d⟩:=m.wf i b h;grind
  .have:=m.le;grind
 .rw[r]at a;have⟨j,l,d,p⟩:=m.rf i b a;refine⟨Y0,l,d,λf k=>?_⟩;rcases c f b k with h|⟨_,o,_⟩;.exact p f h
  .omega
 .rcases c i b k with h|⟨_,o,_⟩;.exact m.mf i b a h
  .have:=(m.wm b a).2.1;omega
 .rcases c i b a with h|⟨rfl,o,_⟩<;>rcases c f b n with t|⟨rfl,q,_⟩;.exact m.ff i f b h t
  .have:=(m.wf i b h).2.1;omega
  .have:=(m.wf f b t).2.1;omega
  .rfl
def zsk{k:Nat}{W R:Nat->Prop}{g:av}{x:Array bB}{u:List ic}{Wx Rx:Nat->Loc->Prop}(j:∀e∈x,s0 ph s H W R e)(m:∀a∈u,La a)(p:∀l b,s5 l=C b->W b->Wx k l)(q:∀l b,s5 l=C b->R b->Rx k l)(r:∀l,zqK ph (s*ph.d) (s*ph.d+ph.d) l->Wx k l)(z:∀b,W b\/R b\/ph.sh b->b<w'.heap.size):(∀op∈jQ k g x u,op.g=k)/\(∀op∈jQ k g x u,OkT (ShL ph) Wx Rx k op)/\∀op∈jQ k g x u,∀y,op.act.touch?=C y->∀b,s5 y.loc=C b->b<w'.heap.size:=by
 refine⟨λop t=>(fy t).1,λop t=>⟨(fy t).1,?_,?_⟩,λop t y h b i=>?_⟩
 .rcases(fy t).2 with⟨e,v,w⟩|⟨a,v,w⟩;.rw[w];exact(j e v).2
  .rw[w];exactλad=>(m a v).2 _
 .intro y h;rcases(fy t).2 with⟨e,v,w⟩|⟨a,v,w⟩
  .rw[w]at h;rcases(j e v).1 y h with⟨b,f,c|⟨c,n⟩⟩|⟨a,f,c,n,o⟩|⟨a,f,c,n,o⟩;.simp_all
   .simp_all
   .exact .inr (.inl (r _ ⟨a,f,c,n,o⟩))
   .exact .inl ⟨⟨a.block,by rw[f];rfl,c⟩,n,λe=>by cases o e⟩
  .rw[w,(m a v).1]at h;cases h
 .rcases(fy t).2 with⟨e,v,w⟩|⟨a,v,w⟩
  .rw[w]at h;rcases(j e v).1 y h with⟨A,f,c|⟨c,n⟩⟩|⟨a,f,c,_⟩|⟨a,f,c,_⟩;.simp_all
   .simp_all
   .rw[f]at i;cases i;exact z _ (.inr (.inr (.inr (.inr c))))
   .rw[f]at i;cases i;exact z _ (.inr (.inr (c.elim .inl λe=>.inr (.inl e))))
  .rw[w,(m a v).1]at h;cases h
def zif(h:RI ph F cF csF W0 dead n1 R0 wg fH x rc bm j Z q gs w t){f:av->av}(n:Wk w' f)(B:Bool)(i:B=E->∀(D:Bool)(g:av),(D=E->g.offers=U)->g.status=.running->f (blk D g)=blk H g):∃(c:Bool)(d:Nat->Bool),(f (blk bm x.g)=blk c x.g/\(c=E->bm=E)/\(B=E->c=H))/\∀s y r D,s<j->Z s=.live y r D->f (blk D y.g)=blk (d s) y.g/\(d s=E->D=E)/\(B=E->d s=H):=by
 have G:∀(D:Bool)(g:av),(D=E->g.offers=U)->g.status=.running->∃b:Bool,f (blk D g)=blk b g/\(b=E->D=E)/\(B=E->b=H):=by intro D g I J;cases hw:B with|true=>exact⟨H,i hw D g I J,λe=>(by cases e),λ_=>rfl⟩|false=>have⟨b,k,l⟩:=zsj n I J;grind
 have m:=G bm x.g (λe=>(h.bmo e).2) ((qR h.beh).1 (WV h.kz));have z:∀s,∃b:Bool,∀y r D,s<j->Z s=.live y r D->f (blk D y.g)=blk b y.g/\(b=E->D=E)/\(B=E->b=H):=by
  intro s;cases L:Z s with|live y r D=>
   by_cases K:s<j
   .have⟨_,k,l,_,o,_⟩:=h.wk s y r D K L;have⟨b,p⟩:=G D y.g k ((Cg l).1 o);refine⟨b,λv A u _ e=>?_⟩;cases e;exact p
   .exact⟨H,λ_ _ _ h=>absurd h K⟩|no=>simp_all|gone a b=>simp_all
 have⟨c,m⟩:=m;have⟨d,z⟩:=Classical.axiomOfChoice z;exact⟨c,d,m,z⟩
def RI.zqZ(h:RI ph F cF csF W0 dead n1 R0 wg fH x rc bm j Z q gs w t):x.g.status=.running:=(qR h.beh).1 (WV h.kz)
def RI.free(h:RI ph F cF csF W0 dead n1 R0 wg fH x rc bm j Z q gs w t):∀o∈gs,o.status≠.blocked\/o.offers=U:=by
 intro o v;have⟨i,p⟩:=eA.1 v;by_cases n:i=0
 .subst n;rw[h.main]at p;cases p;cases k:bm with |false=>exact .inl (by show x.g.status≠_;rw[h.zqZ];decide)|true=>exact .inr (PZ (h.bmo k).2)
 .by_cases l:∃s,s<j/\i=fH s/\(Z s).oK;.obtain⟨u,m,rfl,f⟩:=l;cases z:Z u with
   |live y r c=>have⟨A,B,D,_,G,_⟩:=h.wk u y r c m z;rw[A]at p;cases p;cases k:c with|false=>exact .inl (by show y.g.status≠_;rw[(Cg D).1 G];decide)|true=>exact .inr (PZ (B k))
   |no=>rw[z]at f;cases f|gone a b=>rw[z]at f;cases f
  .have⟨d,m,_⟩:=h.lv i o n l p;rcases m.status with e|e<;>simp_all
def GG{k:Nat}{g:av}{es:Array bB}{b:List ic}(h:∀a∈b,La a):Deaf (t++jQ k g es b) k=cu (Deaf t k) es:=by unfold jQ;rw[<-Array.append_assoc,Deaf_still _ _ _ λop o=>?_,Deaf_own];simp[ez,List.mem_map]at o;obtain⟨a,c,rfl⟩:=o;exact⟨(h a c).2 _,(h a c).2 _⟩
def RI.xY(hFr:∀s WS RS w bd,s<2->fF ph s (λb=>WS b\/RS b) w bd->F s WS RS w->F s WS RS bd)(h:RI ph F cF csF W0 dead n1 R0 wg fH x rc bm j Z q gs w t)(r1:Rk)(hs:s<j){y:Nw}{r:Rk}(Q0:Z s=.live y r H){g':av}{es:Array bB}{acts:List ic}(hmv:Mv prog H y.g w g' w' es acts)(P:EfR ph y.WS s w w'){z':jL}(Q1:z'≠.no)(hrs:z'.rs=y.RS)(hws:∀b,z'.ws b↔y.WS b\/(w.heap.size<=b/\b<w'.heap.size/\¬ph.sh b))(hl:∀m v bl,z'=.live m v bl->bl=H/\Rk.lt v r/\Bh prog ph s (s==0) (F s) v {m with w:=w'}/\m.g=g'/\m.k≠0/\cu y.T.deaf es=m.T.deaf/\(vI m.T.pc=E\/m.T=at_ m.T.pc))(hgo:∀A B,z'=.gone A B->∃n,lR prog n (cu y.T.deaf es) g')(hev:∀e∈es,s0 ph s H z'.ws y.RS e)(hac:∀a∈acts,La a)(hmu:z'.Dv=E->(∃r,xT (DdL (Dt ph dead)) (stA ph.Wg) (t++jQ (fH s) y.g es acts) (fH s) r)/\F s z'.ws z'.rs w')(wake:Bool)(hwk:wake=E->mayWake prog y.g=E/\g'.status=.running/\acts=[]/\bg prog H y.g w=.go g' w' es)(hsy:∃mu ms st sm ρ,zbw ph j x.T (sA Z s z') w' mu ms st sm ρ/\(wake=E\/((bm=E->sm=0)/\∀s' m v,s'<j->s'≠s->Z s'=.live m v E->vI m.T.pc=E/\mv (s'==0) m.T ⟨mu,ms,KKi,0⟩=[])))(hV:Vc j (DZ (sA Z s z'))<=Vc j (DZ Z)):∃m' ops gs' Q p q',runT prog (crowd gs w sl) (fH s)=(.next m',ops)/\m'=crowd gs' w' sl/\gs'.size=gs.size/\RI ph F cF csF W0 dead n1 R0 wg fH x rc Q j p q' gs' w' (t++ops)/\Ms.lt (zK r1 rc p (IN gs' q' Q p)) (zK r1 rc Z (IN gs q bm Z)):=by
 have hj2:=I4 h.jT;have⟨hg,hyo,hyb,hyd,hyk,hyp⟩:=h.wk s y r H hs Q0;have⟨R,M⟩:=h.kd0 s hs;have hg':gs[fH s]?=C y.g:=hg;have hT:x.T≠.st:=λe=>by have:=h.jT;rw[e]at this;simp only[jOk]at this;omega
 have fj:∃f,Wk w' f/\runT prog (crowd gs w sl) (fH s)=(.next (crowd ((gs.map f).setIfInBounds (fH s) g') w' sl),jQ (fH s) y.g es acts)/\(wake=E->∀(bl:Bool)(g:av),(bl=E->g.offers=U)->g.status=.running->f (blk bl g)=blk H g):=by
  have G:(fH s==0)=H:=by simpa using R
  cases hw:wake with|true=>have⟨a1,a2,a3,a4⟩:=hwk hw;subst a3;refine⟨woken prog y.g g' w',qY _ _ _ _,?_,λ_ bl g ho hr=>zgX a1 a2 ho hr⟩;rw[gr (sl:=sl) hg' (by rw[G];exact a4),Cz]|false=>obtain⟨f,o,_,D⟩:=Ot (sl:=sl) hg' h.free (by rw[G];exact hmv);exact⟨f,o,D,Y9⟩
 have⟨f,hf,fj,hfw⟩:=fj;have⟨Q,fl,⟨m1,m2,m3⟩,hfl⟩:=zif h hf wake hfw;let p:Nat->jL:=λi=>if i=s then z' else lS (Z i) (fl i);have Q2:p s=z':=by simp[p]
 have K:∀i,i≠s->p i=lS (Z i) (fl i):=λi hi=>by simp[p,hi]
 have Zst:∀i,(p i).stage=(sA Z s z' i).stage:=λi=>by
  by_cases e:i=s;.subst e;rw[Q2,kQ]
  .rw[K i e,qB Z z' e,yA]
 have Ztb:∀i gj,(p i).fQ gj=(sA Z s z' i).fQ gj:=λi gj=>by
  by_cases e:i=s;.subst e;rw[Q2,kQ]
  .rw[K i e,qB Z z' e,tH]
 have Zrs:∀i,(p i).rs=(Z i).rs:=λi=>by
  by_cases e:i=s;.subst e;rw[Q2,hrs,Q0];rfl
  .rw[K i e,pT]
 have Zws:∀i,i≠s->(p i).ws=(Z i).ws:=λi e=>by rw[K i e,pU]
 have Zow:∀b,(p s).ws b↔(Z s).ws b\/(w.heap.size<=b/\b<w'.heap.size/\¬ph.sh b):=λb=>by rw[Q2,Q0];exact hws b
 have J:=h.mem.grow P.size Zrs Zws Zow;have Q3:=h.sz hT;have W:∀i,i<j->i≠s->∀(St:Nat->Prop),(∀b,St b->(Z i).ws b\/(Z i).rs b)->fF ph i St w w':=λi hi G St hSt=>P.rly Y0 G λb c=>by
  have N:∀b,y.WS b->(Z s).ws b:=λb c=>by rw[Q0];exact c
  rcases hSt b c with o|o;.have⟨_,a2,a3⟩:=h.mem.wf i b o;exact⟨a2,λO=>G (h.mem.ff i s b o (N b O)),a3⟩
  .have⟨a1,a2,_,a4⟩:=h.mem.rf i b o;exact⟨a1,λO=>a4 s (N b O),a2⟩
 have zuJ:IP ph {x with w:=w} w':=by
  refine⟨P.rly (ao _) Y0 λb c=>?_,λe=>absurd e hT⟩;have N:∀b,y.WS b->(Z s).ws b:=λb c=>by rw[Q0];exact c
  have key:(x.WS b\/x.RS b)\/x.XS b->b<w.heap.size/\¬y.WS b/\¬ph.sh b:=by
   rintro((c|c)|c)
   .have⟨_,a2,a3⟩:=h.mem.wm b c;exact⟨a2,λO=>h.mem.mf s b c (N b O),a3⟩
   .have o:=h.mem.rm b c;have D:=h.mem.le;refine⟨Y0,λO=>?_,λhsh=>?_⟩;.have:=(h.mem.wf s b (N b O)).1;omega
    .have:=h.mem.shl b hsh;omega
   .cases hT (h.xs b c).1
  exact key c
 have zqH:=zsk (k:=fH s) (g:=y.g) (w':=w') (Wx:=WR ph j fH x p) (Rx:=RR j fH x p) hev hac (λl b o D=>.inr ⟨s,hs,rfl,.inl ⟨b,o,by rw[Q2];exact D⟩⟩) (λl b o D=>.inr ⟨s,hs,rfl,b,o,by rw[Q2,hrs];exact D⟩) (λl o=>.inr ⟨s,hs,rfl,.inr o⟩) (λb c=>by
   rcases c with c|c|c;.rw[<-Q2]at c;exact(J.wf s b c).2.1
   .have:=(J.rf s b (by rw[Q2,hrs];exact c)).1;exact this
   .exact aO (Q3 b c) P.size);have⟨o1,o2,o3⟩:=zqH;have hold:∀b,b<n1->w'.heap[b]?=w.heap[b]?:=λb c=>by
  have D:=h.mem.le;refine P.blk b Y0 (λO=>?_) (λhsh=>?_);.have:=(h.mem.wf s b (by rw[Q0];exact O)).1;omega
  .have:=h.mem.shl b hsh;omega
 have hti:TI (ShL ph) (DdL (Dt ph dead)) (wkR j fH) (WR ph j fH x p) (RR j fH x p) t:=by
  have new:∀{l:Loc}{b:Nat},s5 l=C b->w.heap.size<=b->∀i y,qA t i=C y->y.loc≠l:=λo D i y O e=>by have:=h.cb.bnd i y O _ (e▸o);omega
  refine h.ti.W5 (λg l hw=>?_) (λg l hr=>?_) (λl hl=>.inl hl) (λl hl=>hl) (λk hk=>hk)
  .rcases hw with hw|⟨i,hi,rfl,⟨b,o,D⟩|o⟩;.exact .inl (.inl hw)
   .by_cases e:i=s
    .subst e;rcases(Zow b).1 D with h3|⟨h3,_⟩;.exact .inl (.inr ⟨i,hi,rfl,.inl ⟨b,o,h3⟩⟩)
     .exact .inr (new o h3)
    .rw[Zws i e]at D;exact .inl (.inr ⟨i,hi,rfl,.inl ⟨b,o,D⟩⟩)
   .exact .inl (.inr ⟨i,hi,rfl,.inr o⟩)
  .rcases hr with hr|⟨i,hi,rfl,b,o,D⟩;.exact .inr (.inl (.inl hr))
   .rw[Zrs]at D;exact .inr (.inl (.inr ⟨i,hi,rfl,b,o,D⟩))
 obtain⟨mu,ms,st,sm,ρ,u,X⟩:=hsy;have Q4:((gs.map f).setIfInBounds (fH s) g').size=gs.size:=eY;have hlv:∃q',vH prog ((gs.map f).setIfInBounds (fH s) g') (t++jQ (fH s) y.g es acts) (λi=>∃s,s<j/\i=fH s/\(p s).oK) q':=by
  have hkl:∃s',s'<j/\fH s=fH s'/\(Z s').oK:=⟨s,hs,rfl,by rw[Q0];trivial⟩;have h5:=(h.lv.move (w':=w') (g':=g') hf (.inr hkl)).app o1 (.inr hkl)
  cases L:z' with|no=>cases Q1 L|live m v bl=>
   refine⟨q,h5.sub λi hi=>?_⟩;have⟨s',a1,a2,a3⟩:=hi;refine⟨s',a1,a2,?_⟩;by_cases e:s'=s;.subst e;rw[Q2,L];trivial
   .rw[K s' e];exact(vo _ _).2 a3|gone A B=>
   have⟨n,hq⟩:=hgo A B L;refine⟨_,h5.more (k:=fH s) (n:=n) (d:=cu y.T.deaf es) R (λg1 hg1=>?_) λi hi=>?_⟩
   .rw[eO M]at hg1;cases hg1;exact⟨hq,by rw[GG hac,hyd]⟩
   .have⟨s',a1,a2,a3⟩:=hi;by_cases e:s'=s;.subst e;exact .inr a2
    .exact .inl ⟨s',a1,a2,by rw[K s' e];exact(vo _ _).2 a3⟩
 have⟨q',hlv⟩:=hlv;refine⟨_,_,_,Q,p,q',fj,rfl,Q4,?_,?_⟩
 .refine⟨?_,λe=>h.bmo (m2 e),Pg (x:={x with w:=w}) h.beh zuJ,?_,?_,h.jT,hlv,λi hi=>?_,λi hi=>?_,λi hi=>by rw[Q4];exact h.kd0 i hi,h.SX,λi m v bl hi z=>?_,λi hi hm=>?_,J,h.xs,?_,h.gl,hti.app J.zmt (.inr ⟨s,hs,rfl⟩) o2,?_,λ_ b c=>aO (Q3 b c) P.size,λ_=>?_⟩;.rw[qV 0 (cA R),h.main];exact congrArg C m1
  .rw[l1 t R _ o1];exact h.deaf
  .refine zkm ?_ h.kz;have e:Vc j (DZ p)=Vc j (DZ (sA Z s z')):=sumTo_congr λi _=>by simp[DZ,Zst i]
   rw[e];exact hV
  .have G:i≠s:=Y0;rw[K i G,h.no i hi];rfl
  .by_cases e:i=s;.subst e;rw[Q2];exact Q1
   .rw[K i e];exactλhn=>h.yes i hi ((Ju _ _).1 hn)
  .by_cases e:i=s
   .subst e;rw[Q2]at z;obtain⟨rfl,_,b3,rfl,b5,b6,b7⟩:=hl m v bl z;refine⟨eO M,Y9,b3,by rw[GG hac,hyd];exact b6,b5,b7⟩
   .rw[K i e]at z;obtain⟨rfl,I,Q5⟩:=mo z;have⟨a1,a2,a3,a4,a5,a6⟩:=h.wk i m v I hi Q5;have⟨b1,b2,_⟩:=hfl i m v I hi Q5;have S:=λek=>e (h.SX i s hi hs ek);refine⟨?_,λe=>a2 (b2 e),?_,?_,a5,a6⟩
    .rw[qV _ S,a1];exact congrArg C b1
    .exact Xc (x:={m with w:=w}) a3 (W i hi e (Nw.St {m with w:=w}) λb c=>by rw[Q5];exact c)
    .rw[l1 t (cA S) _ o1];exact a4
  .by_cases e:i=s
   .subst e;rw[Q2]at hm⊢;exact hmu hm
   .rw[K i e,yz]at hm;have⟨⟨r2,c1⟩,c2⟩:=h.rel i hi hm;refine⟨⟨r2,c1.Gy o1 (cA (λek=>e (h.SX i s hi hs ek)))⟩,?_⟩;rw[Zws i e,Zrs];exact hFr i _ _ _ _ Y0 (W i hi e _ λb c=>c) c2
  .exact h.gh.right λa b l r=>hold b (h.gl a b l r)
  .refine h.cb.step P.size (λb c=>hold b (aO c h.mem.wn)) (cI Q4.symm) P.os P.output λop oz=>⟨by rw[o1 op oz,Q4];exact M,o3 op oz⟩
  .refine⟨mu,ms,st,sm,ρ,⟨u.mA,u.gA,u.md.congr λi _=>by simp[DZ,Zst i],?_,λi m v bl hi z hp=>?_⟩,⟨λe=>?_,λi m v hi z=>?_⟩⟩;.rw[Ztb 0,Ztb 1];exact u.tb
   .by_cases e:i=s;.subst e;rw[Q2]at z;exact u.kk i m v bl hi (by rw[kQ];exact z) hp
    .rw[K i e]at z;have⟨_,I,Q5⟩:=mo z;exact u.kk i m v I hi (by rw[qB Z z' e];exact Q5) hp
   .rcases X with hw|⟨o,_⟩;.rw[m3 hw]at e;cases e
    .exact o (m2 e)
   .by_cases e:i=s
    .subst e;rw[Q2]at z;have:=(hl m v E z).1;cases this
    .rw[K i e]at z;have⟨hf1,I,Q5⟩:=mo z;have⟨_,b2,b3⟩:=hfl i m v I hi Q5;have hb0:=b2 hf1.symm;subst hb0;rcases X with hw|⟨_,D⟩;.rw[b3 hw]at hf1;cases hf1
     .exact D i m v hi e Q5
 .have hmr:Rk.lt (p s).mr (Z s).mr:=by rw[Q2,Q0];cases L:z' with|no=>cases Q1 L|live m v bl=>exact Rk.zvz (hl m v bl L).2.1|gone A B=>exact Rk.zrc r
  have hs2:s=0\/s=1:=Y0;rcases hs2 with rfl|rfl;.exact .a rfl rfl hmr
  .refine .b rfl rfl ?_ hmr;show(p 0).mr=(Z 0).mr;rw[K 0 Y0,Jt]
end
end Rn
namespace Rn
open Go Go.Conc Go.ConcM
open Go.ConcN(sumTo upd upd_same upd_ne sumTo_congr sumTo_upd CTag WD Deaf_still Vc cnt Vc_upd Vc_le others_uncounted)
open Go.ConcR(KK WgAt stA smA rd wr mk DC0)
def WU(w:Bool):Th:=at_ (if w then .kd else .wr)
def AM{gj:Bool}{y:Nw}{r:Rk}{b:Bool}:(jL.live y r b).fQ gj=if vI y.T.pc then y.T else WU gj:=rfl
section
variable{Z:Nat->jL}{s j:Nat}{z':jL}
def ziV(i:Nat):(DZ (sA Z s z') i).stage=(upd (DZ Z) s ⟨z'.stage,0,0⟩ i).stage:=by
 by_cases e:i=s;.subst e;simp[DZ,kQ,kL]
 .rw[xW _ _ e];simp[DZ,qB Z z' e]
def zi5{t:CTag}{st sm:Int}(h:Go.ConcN.Mode j (upd (DZ Z) s ⟨z'.stage,0,0⟩) t st sm):Go.ConcN.Mode j (DZ (sA Z s z')) t st sm:=h.congr λi _=>ziV i
def zsf:Vc j (DZ (sA Z s z'))=Vc j (upd (DZ Z) s ⟨z'.stage,0,0⟩):=sumTo_congr λi _=>by simp[cnt,ziV i]
def F6(c:s<j)(h:cnt ⟨z'.stage,0,0⟩<=cnt (DZ Z s)):Vc j (DZ (sA Z s z'))<=Vc j (DZ Z):=by have a:=Vc_upd (DZ Z) (⟨z'.stage,0,0⟩:WD) c;have b:Vc j (DZ (sA Z s z'))=Vc j (upd (DZ Z) s ⟨z'.stage,0,0⟩):=zsf;omega
end
section
variable{ph:Ph}{F:Nat->(Nat->Prop)->(Nat->Prop)->V->Prop}{cF:ag}{csF:List ag}{W0:V}{dead:Nat->Prop}{n1:Nat}{R0:BR}{wg:V}{fH:Nat->Nat}
variable{x:Nm}{rc:Rk}{bm:Bool}{j:Nat}{Z:Nat->jL}{q:Nat->Nat}{gs:Array av}{w w':V}{t:nb}{sl:Option (Nat×Nat)}
def WG(ph:Ph)(F:Nat->(Nat->Prop)->(Nat->Prop)->V->Prop)(cF:ag)(csF:List ag)(W0:V)(dead:Nat->Prop)(n1:Nat)(R0:BR)(wg:V)(fH:Nat->Nat)(x:Nm)(rc:Rk)(j:Nat)(r:Rk)(μ:Ms)(gs:Array av)(w:V)(sl:Option (Nat×Nat))(t:nb)(i:Nat):Prop:=∃m o g w' b Z q,runT prog (crowd gs w sl) i=(.next m,o)/\m=crowd g w' sl/\g.size=gs.size/\RI ph F cF csF W0 dead n1 R0 wg fH x rc b j Z q g w' (t++o)/\Ms.lt (zK r rc Z (IN g q b Z)) μ
variable{s:Nat}
def zsc{z':jL}{a sh':Sh}(b:s<2):(⟨(sA Z s z' 0).fQ E,(sA Z s z' 1).fQ H,sh'⟩:GS)=(⟨(Z 0).fQ E,(Z 1).fQ H,a⟩:GS).put (s==0) (z'.fQ (s==0)) sh':=by have h:s=0\/s=1:=Y0;rcases h with rfl|rfl<;>simp[sA,GS.put]
def zpj{a:Sh}(b:s<2):(⟨(Z 0).fQ E,(Z 1).fQ H,a⟩:GS).th (s==0)=(Z s).fQ (s==0):=by have h:s=0\/s=1:=Y0;rcases h with rfl|rfl<;>rfl
def ve{z':jL}(x:s<2){mu o st q a b:Int}{ρ:Nat}{T:MT}(h:zbw ph j T Z w mu o st q ρ)(f:MuAt ph.tM ph.Mu w' mu o)(g:WgAt ph.tW ph.Wg w' a b)(t:z'.fQ (s==0)=(Z s).fQ (s==0))(m:Go.ConcN.Mode j (upd (DZ Z) s ⟨z'.stage,0,0⟩) (lQ H T) a b)(l:∀y r p,z'=.live y r p->vI y.T.pc=E->ρ<y.k):zbw ph j T (sA Z s z') w' mu o a b ρ:=by
 refine⟨f,g,zi5 m,?_,λi y r p u z v=>?_⟩
 .have n:s=0\/s=1:=Y0;have:=h.tb;rcases n with rfl|rfl
  .have c:(sA Z 0 z' 0).fQ E=(Z 0).fQ E:=by rw[kQ];exact t
   have d:(sA Z 0 z' 1).fQ H=(Z 1).fQ H:=by rw[qB Z z' Y0]
   rw[c,d];exact this
  .have c:(sA Z 1 z' 1).fQ H=(Z 1).fQ H:=by rw[kQ];exact t
   have d:(sA Z 1 z' 0).fQ E=(Z 0).fQ E:=by rw[qB Z z' Y0]
   rw[c,d];exact this
 .by_cases e:i=s;.subst e;rw[kQ]at z;simp_all
  .rw[qB Z z' e]at z;exact h.kk i y r p u z v
def Em{W R:Nat->Prop}{e:bB}(h:Bk2 ph.Mu ph.Wg e):s0 ph s H W R e:=by
 rcases h with h|h|⟨a,b,rfl,h⟩
 .have⟨l,b,c⟩:=e;simp  at h;subst h;exact⟨λx d=>by simp[aI,cd]at d,λa h=>by simp[aI]at h⟩
 .have⟨l,b,c⟩:=e;simp  at h;subst h;exact⟨λx d=>by simp[aI,cd]at d,λa h=>by simp[aI]at h⟩
 .refine⟨λx d=>?_,λa h=>by cases b<;>cases h⟩;have:x=⟨.cell a,b,.atomic⟩:=by cases b<;>simpa[aI,cd,eq_comm]using d
  subst this;exact .inr (.inr ⟨a,rfl,h,Y1,Y1⟩)
def ziq{W R:Nat->Prop}{m:Mark}(c:(MemAct.mark m).touch?=U)(d:∀a,m≠.release a):∀e∈#[mk m],s0 ph s H W R e:=by intro e b;simp at b;subst b;exact⟨λx f=>(by simp only[mk,aI,c]at f;cases f),λa h=>by simp[mk,aI,MemAct.mark.injEq]at h;exact d a h⟩
def Jc{k d:Nat}{g:av}{p:Array bB}(s:Deaf t k=d)(h:∃r,xT (DdL (Dt ph dead)) (stA ph.Wg) t k r)(o:∀e∈p,Bk2 ph.Mu ph.Wg e)(q:∀j e,p[j]?=C e->(aI e).touch?=U\/0<cu d (p.extract 0 j)):∃r,xT (DdL (Dt ph dead)) (stA ph.Wg) (t++jQ k g p []) k r:=by
 have⟨r,h⟩:=h;rw[Cz];refine⟨r,h.zq6 _ _ p λi e n=>?_⟩;rcases q i e n with m|m;.exact .inl m
 .rcases o e (Array.mem_of_getElem? n)with f|f|⟨a,b,rfl,f⟩
  .have⟨l,b,c⟩:=e;simp  at f;subst f;exact .inl (by simp[aI,cd])
  .have⟨l,b,c⟩:=e;simp  at f;subst f;exact .inl (by simp[aI,cd])
  .exact .inr ⟨⟨a,b,rfl,a.block,rfl,.inr f⟩,Y7⟩
def RI.block(h:RI ph F cF csF W0 dead n1 R0 wg fH x rc bm j Z q gs w t)(r1:Rk)(hs:s<j){y:Nw}{r:Rk}(u:Z s=.live y r H)(ho:y.g.offers=U)(K:bg prog H y.g w=.go {y.g with status:=.blocked} w #[])(m:∃mu ms st sm ρ,zbw ph j x.T Z w mu ms st sm ρ/\zqi j bm Z mu ms sm/\vI y.T.pc=E/\mv (s==0) y.T ⟨mu,ms,KKi,0⟩=[]):WG ph F cF csF W0 dead n1 R0 wg fH x rc j r1 (zK r1 rc Z (IN gs q bm Z)) gs w sl t (fH s):=by
 have X:=I4 h.jT;have⟨P,_,L,M,N,hyp⟩:=h.wk s y r H hs u;have⟨v,A⟩:=h.kd0 s hs;have O:gs[fH s]?=C y.g:=P;have Q:(fH s==0)=H:=Y7;have fj:=gr (sl:=sl) O (by rw[Q];exact K);have hid:woken prog y.g {y.g with status:=.blocked} w=id:=by funext o;unfold woken;rw[if_neg Y1];rfl
 rw[hid,Array.map_id,qL]at fj;let a:Nat->jL:=sA Z s (.live y r E);have f:a s=.live y r E:=kQ _ _ _;have k:∀i,i≠s->a i=Z i:=λi hi=>qB Z _ hi;have eqs:∀i,(a i).ws=(Z i).ws/\(a i).rs=(Z i).rs/\(a i).stage=(Z i).stage/\(∀b,(a i).fQ b=(Z i).fQ b)/\(a i).Dv=(Z i).Dv/\((a i).oK↔(Z i).oK)/\(a i).mr=(Z i).mr:=λi=>by
  by_cases e:i=s;.subst e;rw[f,u];exact⟨rfl,rfl,rfl,λ_=>rfl,rfl,Iff.rfl,rfl⟩
  .simp_all
 have d:(gs.setIfInBounds (fH s) {y.g with status:=.blocked}).size=gs.size:=Y1;have B:DZ a=DZ Z:=by funext i;simp[DZ,(eqs i).2.2.1]
 have p:∀i,i≠fH s->(gs.setIfInBounds (fH s) {y.g with status:=.blocked})[i]?=gs[i]?:=λi hi=>Array.getElem?_setIfInBounds_ne (cA hi);have R:Mem ph W0 n1 x a w:=⟨h.mem.okp,h.mem.shl,h.mem.le,h.mem.wn,h.mem.wm,h.mem.rm,λi b m=>h.mem.wf i b Y7,λi b m=>by have⟨a1,a2,a3,a4⟩:=h.mem.rf i b Y7;simp_all,λi b m hi=>h.mem.mf i b m Y7,λi D b h1 h2=>h.mem.ff i D b Y7 Y7⟩;refine⟨_,_,_,w,bm,a,q,fj,rfl,d,?_,?_⟩
 .rw[gg];refine⟨by rw[p 0 (cA v)];exact h.main,h.bmo,h.beh,h.deaf,by rw[B];exact h.kz,h.jT,λi g h0 hn S=>?_,λi hi=>?_,λi hi=>?_,λi hi=>by rw[d];exact h.kd0 i hi,h.SX,λi G Q0 bl hi z=>?_,λi hi W=>?_,R,h.xs,h.gh,h.gl,?_,⟨h.cb.old,h.cb.size,h.cb.bnd,h.cb.dlt,λi op hi=>by rw[d];exact h.cb.ids i op hi,h.cb.os,h.cb.output⟩,h.sz,λhT=>?_⟩
  .rw[p i (λe=>hn ⟨s,hs,e,by rw[f];trivial⟩)]at S;exact h.lv i g h0 (λ⟨s',a1,a2,a3⟩=>hn ⟨s',a1,a2,(eqs s').2.2.2.2.2.1.2 a3⟩) S
  .rw[k i Y0];exact h.no i hi
  .by_cases e:i=s;.simp_all
   .rw[k i e];exact h.yes i hi
  .by_cases e:i=s;.subst e;rw[f]at z;cases z;exact⟨by rw[bM];simp[A,blk],λ_=>ho,L,M,N,hyp⟩
   .rw[k i e]at z;have⟨a1,a2⟩:=h.wk i G Q0 bl hi z;exact⟨by rw[p _ λek=>e (h.SX i s hi hs ek)];exact a1,a2⟩
  .rw[(eqs i).2.2.2.2.1]at W;rw[(eqs i).1,(eqs i).2.1];exact h.rel i hi W
  .have e1:WR ph j fH x a=WR ph j fH x Z:=by funext g l;simp[WR,λi=>(eqs i).1]
   have e2:RR j fH x a=RR j fH x Z:=by funext g l;simp[RR,λi=>(eqs i).2.1]
   rw[e1,e2];exact h.ti
  .obtain⟨mu,ms,st,sm,ρ,c,I,hp,Q1⟩:=m;refine⟨mu,ms,st,sm,ρ,⟨c.mA,c.gA,by rw[B];exact c.md,by rw[(eqs 0).2.2.2.1,(eqs 1).2.2.2.1];exact c.tb,λi G Q0 bl hi z J=>?_⟩,⟨I.hm,λi G Q0 hi z=>?_⟩⟩
   .by_cases e:i=s;.subst e;rw[f]at z;cases z;exact c.kk i y r H hi u J
    .rw[k i e]at z;exact c.kk i G Q0 bl hi z J
   .by_cases e:i=s;.simp_all
    .rw[k i e]at z;exact I.hl i G Q0 hi z
 .refine .n rfl rfl (eqs 0).2.2.2.2.2.2 (eqs 1).2.2.2.2.2.2 ?_;show IN _ q bm a<IN gs q bm Z;unfold IN;rw[d];have Q2:s=0\/s=1:=Y0;rcases Q2 with rfl|rfl;.rw[f,k 1 Y0,u];simp[jL.bit]
  .rw[f,k 0 Y0,u];simp[jL.bit]
end
end Rn
namespace Rn
open Go Go.Conc Go.ConcM
open Go.ConcN(sumTo upd upd_same upd_ne sumTo_congr sumTo_upd CTag WD Deaf_still Vc cnt Vc_upd Vc_le others_uncounted pend OpenSt AllQuit)
open Go.ConcR(KK WgAt stA smA rd wr mk DC0)
section
variable{ph:Ph}{F:Nat->(Nat->Prop)->(Nat->Prop)->V->Prop}{cF:ag}{csF:List ag}{W0:V}{dead:Nat->Prop}{n1:Nat}{R0:BR}{wg:V}{fH:Nat->Nat}
variable{x:Nm}{rc:Rk}{bm:Bool}{j:Nat}{Z:Nat->jL}{q:Nat->Nat}{gs:Array av}{w w':V}{t:nb}{sl:Option (Nat×Nat)}
def mn{r:Rk}{μ:Ms}{i:Nat}(h:∃m o g b Z q,runT prog (crowd gs w sl) i=(.next m,o)/\m=crowd g w' sl/\g.size=gs.size/\RI ph F cF csF W0 dead n1 R0 wg fH x rc b j Z q g w' (t++o)/\Ms.lt (zK r rc Z (IN g q b Z)) μ):WG ph F cF csF W0 dead n1 R0 wg fH x rc j r μ gs w sl t i:=by have⟨m,o,g,b,Z,q,h⟩:=h;exact⟨m,o,g,w',b,Z,q,h⟩
def x6{s:Nat}{e:Nat->Prop}{g f:av}{i:Array bB}(h:Mz prog e g w f w' i){St:Nat->Prop}(S:∀b,St b->¬e b)(m:Wf ph w->Wf ph w')(c:Wj ph w->Wj ph w')(a:¬e ph.Bo):fF ph s St w w':=⟨cI h.size.symm,λb a=>h.blk b (S b a),m,c,λj d=>⟨j,⟨(h.blk _ a).trans d.1,d.2⟩,rfl⟩⟩
def Aw{W:Nat->Prop}(h:w'.heap.size=w.heap.size)(b:Nat):W b↔W b\/(w.heap.size<=b/\b<w'.heap.size/\¬ph.sh b):=Y8
def x4{T g:Th}{f:Array bB}(h:lj ph.Mu ph.Wg T g f)(a:T.pc≠.la)(b:T.pc≠.ur)(c:T.pc≠.wr)(d:T.pc≠.aq):(∀e∈f,Bk2 ph.Mu ph.Wg e)/\cu T.deaf f=(if g.pc=.quit then 1 else g.deaf)/\∀j e,f[j]?=C e->(aI e).touch?=U\/0<cu T.deaf (f.extract 0 j):=by unfold lj at h;split at h<;>first|contradiction|exact h
def zrZ{q:Sh}(h:q.wg=KKi)(e:q.ws=0):q=⟨q.mu,q.ms,KKi,0⟩:=by have⟨a,b,c,d⟩:=q;simp  at h e;rw[h,e]
def RI.zdr(K:∀s WS RS w bd,s<2->fF ph s (λb=>WS b\/RS b) w bd->F s WS RS w->F s WS RS bd)(h:RI ph F cF csF W0 dead n1 R0 wg fH x rc bm j Z q gs w t)(r1:Rk){s:Nat}(hs:s<j){y:Nw}{r:Rk}{bl:Bool}(Q0:Z s=.live y r bl){g:av}(hgi:gs[fH s]?=C g)(fj:g.status=.running):WG ph F cF csF W0 dead n1 R0 wg fH x rc j r1 (zK r1 rc Z (IN gs q bm Z)) gs w sl t (fH s):=by have hj2:=I4 h.jT;have G:s<2:=Y0;cases bl with|true=>have hg:=(h.wk s y r E hs Q0).1;rw[hg]at hgi;cases hgi;cases fj|false=>
 have⟨hg,hyo,hyb,hyd,hyk,hyp⟩:=h.wk s y r H hs Q0;have hT:x.T≠.st:=λe=>by have:=h.jT;rw[e]at this;simp[jOk]at this;omega
 obtain⟨mu,ms,st,sm,ρ,d,hbl⟩:=h.sy hT;have R:∀s' P r',s'<j->s'≠s->Z s'=.live P r' E->vI P.T.pc=E/\mv (s'==0) P.T ⟨mu,ms,KKi,0⟩=[]:=λs' P r' O _ h3=>hbl.hl s' P r' O h3;have hwf:=λb hb=>h.mem.wf s b (by rw[Q0];exact hb);have hrf:∀b,y.RS b->b<w.heap.size/\¬ph.sh b:=λb hb=>by have⟨a1,a2,_⟩:=h.mem.rf s b (by rw[Q0];exact hb);exact⟨a1,a2⟩
 have hsh:=λb O S=>(hwf b S).2.2 O;have Q1:=h.mem.okp;have hSt:∀b,y.WS b\/y.RS b->¬ph.sh b:=λb hb=>hb.elim (λh=>(hwf b h).2.2) λh=>(hrf b h).2;have law:=(Cg hyb).2 w (fF.refl _ _);have hzt:(Z s).fQ (s==0)=if vI y.T.pc then y.T else WU (s==0):=by rw[Q0];rfl
 have Q2:DZ Z s=⟨(jL.live y r H).stage,0,0⟩:=by simp[DZ,Q0]
 cases law with
 |deep hk=>cases hyk hk|Ac vE g' w' es acts X hn hm hB=>
  have⟨r',Q,hB⟩:=hB;have M:MuAt ph.tM ph.Mu w' mu ms:=(X.blk _ (h.sz hT _ (.inl rfl)) (hsh _ (.inl rfl)) Q1.mb).trans d.mA;have W:WgAt ph.tW ph.Wg w' st sm:=(X.blk _ (h.sz hT _ (.inr (.inl rfl))) (hsh _ (.inr (.inl rfl))) Q1.wb).trans d.gA;refine mn (w':=w') (h.xY K r1 hs Q0 X.mv (Od X Y0 Q1 hsh) (z':=.live ⟨y.T,y.k,vE,y.RS,g',w'⟩ r' H) Y9 rfl X.ws (λP u bl e=>?_) (λA B e=>by cases e) X.ev X.acts (λhmt=>?_) H Y9 ⟨mu,ms,st,sm,ρ,ve G d M W ?_ ?_ (λP u bl e hp=>?_),.inr ⟨hbl.hm,R⟩⟩ (F6 hs ?_))
  .cases e;exact⟨rfl,Q,hB,rfl,hyk,xq hn _,hyp⟩
  .obtain⟨rfl,rfl,rfl,rfl⟩:=hm hmt;have:=h.rel s hs (by rw[Q0];exact hmt);rw[Q0]at this;have e0:jQ (fH s) y.g #[] []=#[]:=by simp[jQ,qL]
   rw[e0,gg];exact this
  .rw[Q0];rfl
  .have:upd (DZ Z) s (⟨(jL.live ⟨y.T,y.k,vE,y.RS,g',w'⟩ r' H).stage,0,0⟩:WD)=DZ Z:=by
    funext i;by_cases e:i=s;.subst e;rw[kL,Q2];rfl
    .rw[xW _ _ e]
   rw[this];exact d.md
  .cases e;exact d.kk s y r H hs Q0 hp
  .rw[Q2];exact ao _|mu hp ho N=>
  have fct:=d.tb.facts;have hmt:(Z s).fQ (s==0)=y.T:=by rw[hzt,if_pos hp]
  have hth:(⟨(Z 0).fQ E,(Z 1).fQ H,⟨mu,ms,KKi,0⟩⟩:GS).th (s==0)=y.T:=(zpj G).trans hmt;have hlw:=N ⟨mu,ms,KKi,0⟩ d.mA fct.fits;by_cases hmv:mv (s==0) y.T ⟨mu,ms,KKi,0⟩=[];.exact h.block r1 hs Q0 ho (hlw.1 hmv) ⟨mu,ms,st,sm,ρ,d,hbl,hp,hmv⟩
  .have⟨r0,hr0,hr2⟩:=hlw.2 hmv;have zyz:((⟨(Z 0).fQ E,(Z 1).fQ H,⟨mu,ms,KKi,0⟩⟩:GS)).a.pc≠.ret:=by cases hz0:Z 0 with|no=>simp[jL.fQ]|gone A B=>simp[jL.fQ]|live y0 r00 b0=>
     rw[AM];split
     .rename_i hp0;intro e;rw[e]at hp0;cases hp0
     .simp[WU]
   have zqG:=GS.put_mem (⟨(Z 0).fQ E,(Z 1).fQ H,⟨mu,ms,KKi,0⟩⟩:GS) (s==0) (by rw[hth];exact hr0) zyz;obtain⟨ρ',hρ,wR⟩:=d.tb.succ zqG;have zt6:r0.1.pc≠.bad:=by have:=wR.facts.nobad (s==0);rwa[GS.th_put_same]at this
   have⟨g',w',es,c,zt8,l,hus,r',Q,hB⟩:=hr2 zt6;have⟨hw1,hw2⟩:=zuX hp hr0;have zt9:=zrZ hw1 hw2;have hρk:=d.kk s y r H hs Q0 hp;have W:=(c.blk _ λe=>Q1.mw e.symm).trans d.gA;have o:EfR ph y.WS s w w':=sD c.blk c.size c.os c.output (λb e=>.inl e) (λe=>Q1.mb e.symm) (λ_=>⟨_,_,zt8⟩) (λ_=>⟨_,_,W⟩);have hpc:=zuW hp hr0 zt6;have zyG:(jL.live ⟨OC r0.1,y.k-1,y.WS,y.RS,g',w'⟩ r' H).fQ (s==0)=r0.1:=by
    rw[AM];rcases hpc with⟨O,S⟩|⟨O,S⟩;.simp[S,O,if_true]
    .simp[S];rw[O];rfl
   have hlm:(OC r0.1).mute=H:=by
    rcases hpc with⟨O,S⟩|⟨O,S⟩;.rw[S];cases hq:r0.1.pc<;>rw[hq]at O<;>first|(cases O;done)|simp[Th.mute,hq]
    .rw[S];rfl
   have I:(jL.live ⟨OC r0.1,y.k-1,y.WS,y.RS,g',w'⟩ r' H).stage=(jL.live y r H).stage:=by
    have e1:(jL.live y r H).stage=7:=by simp[jL.stage];cases hq:y.T.pc<;>rw[hq]at hp<;>(cases hp;done)
    rw[e1];rcases hpc with⟨O,S⟩|⟨O,S⟩;.simp[jL.stage,S];cases hq:r0.1.pc<;>rw[hq]at O<;>(cases O;done)
    .simp[jL.stage,S]
   have hlq:(OC r0.1).pc≠.quit:=by
    rcases hpc with⟨O,S⟩|⟨O,S⟩;.rw[S];intro e;rw[e]at O;cases O
    .rw[S];simp
   have zhG:vI (OC r0.1).pc=E\/OC r0.1=at_ (OC r0.1).pc:=by
    rcases hpc with⟨O,S⟩|⟨O,S⟩;.rw[S];exact .inl O
    .rw[S];exact .inr rfl
   have zik:=fct.edge (s==0) r0 (by rw[hth];exact hr0);rw[hth]at zik;have zoH:cu y.T.deaf es=(OC r0.1).deaf/\∀e∈es,s0 ph s H y.WS y.RS e:=by
    by_cases c1:y.T.pc=.la
    .have e1:es=#[Go.ConcR.mk (.acquire (muA ph.Mu))]:=by unfold lj at l;rw[c1]at l;exact l
     have e2:=zik.la c1;refine⟨?_,e1▸ziq rfl Y1⟩;have e3:=Ep (by rw[e2];simp);rw[e1,e3];simp[cp,c1,e2,cu,Go.ConcR.mk]
    .by_cases c2:y.T.pc=.ur
     .have e1:es=#[Go.ConcR.mk (.releaseMerge (muA ph.Mu))]:=by unfold lj at l;rw[c2]at l;exact l
      have e2:=zik.ur c2;refine⟨?_,e1▸ziq rfl Y1⟩;have e3:=Ep (by rw[e2];simp);rw[e1,e3];simp[cp,c2,e2,cu,Go.ConcR.mk]
     .have⟨b1,b2,_⟩:=x4 l c1 c2 (λe=>by rw[e]at hp;cases hp) (λe=>by rw[e]at hp;cases hp);rw[if_neg hlq]at b2;exact⟨b2,λe he=>Em (b1 e he)⟩
   have hkn:y.k-1≠0:=Y0;have hgr:=(Cg hB).1 hkn;refine mn (h.xY K r1 hs Q0 (.inl ⟨rfl,c.st⟩) o (acts:=[]) (z':=.live ⟨OC r0.1,y.k-1,y.WS,y.RS,g',w'⟩ r' H) Y9 rfl (Aw c.size) (λP u bl e=>?_) (λA B e=>by cases e) zoH.2 Y1 (λhmt=>?_) (decide (y.T.pc=.us)) (λe=>⟨hus (by simpa using e),hgr,rfl,c.st⟩) ⟨r0.2.mu,r0.2.ms,st,sm,ρ',⟨zt8,W,zi5 ?_,?_,λi P u bl hi hzi hpi=>?_⟩,?_⟩ (F6 hs ?_));.cases e;exact⟨rfl,Q,hB,rfl,hkn,zoH.1,zhG⟩
   .have:(OC r0.1).mute=E:=hmt;rw[hlm]at this;cases this
   .have:upd (DZ Z) s (⟨(jL.live ⟨OC r0.1,y.k-1,y.WS,y.RS,g',w'⟩ r' H).stage,0,0⟩:WD)=DZ Z:=by
     funext i;by_cases e:i=s;.subst e;rw[kL,Q2,I]
     .rw[xW _ _ e]
    rw[this];exact d.md
   .rw[zsc G,zyG,<-zt9];exact wR
   .by_cases e:i=s
    .subst e;rw[kQ]at hzi;cases hzi;show ρ'<y.k-1;omega
    .rw[qB _ _ e]at hzi;have:=d.kk i P u bl hi hzi hpi;omega
   .by_cases hu:y.T.pc=.us;.exact .inl (by simpa using hu)
    .refine .inr ⟨hbl.hm,λs' P u hs' hne hz'=>?_⟩;have⟨a1,a2⟩:=R s' P u hs' hne hz';refine⟨a1,?_⟩;have zyy:=zi7 a1 a2;have zuc:(s'==0)=!(s==0):=by have:s=0\/s=1:=Y0;have:s'=0\/s'=1:=Y0;rcases‹s=0\/s=1›with rfl|rfl<;>rcases‹s'=0\/s'=1›with rfl|rfl<;>first|rfl|cases hne rfl
     have zub:(⟨(Z 0).fQ E,(Z 1).fQ H,⟨mu,ms,KKi,0⟩⟩:GS).th (s'==0)=P.T:=by rw[zpj Y0,hz',AM,if_pos a1]
     have hwt:=fct.wake (s==0) r0 (by rw[hth];exact hr0) (by rw[<-zuc,zub];unfold Th.waits;rw[zyy,a2];rfl);rw[hth,<-zuc,zub]at hwt;rcases hwt with O|O|O
     .unfold Th.waits at O;rw[Bool.and_eq_true,List.isEmpty_iff]at O;rw[<-zt9];exact O.2
     .cases hu O
     .rw[O]at hp;cases hp
   .rw[Q2,I];exact ao _|wr J hF g' w' es c l hB=>
  have⟨r',Q,hB⟩:=hB;have⟨yT,yk,Q3,Q4,yg,yw⟩:=y;simp  at J;subst J;have e1:=l;have M:MuAt ph.tM ph.Mu w' mu ms:=(c.blk _ id).trans d.mA;have W:WgAt ph.tW ph.Wg w' st sm:=(c.blk _ id).trans d.gA;have o:EfR ph Q3 s w w':=sD (ex:=λ_=>False) c.blk c.size c.os c.output (λb e=>e.elim) id (λ_=>⟨_,_,M⟩) (λ_=>⟨_,_,W⟩);refine mn (w':=w') (h.xY K r1 hs Q0 (.inl ⟨rfl,c.st⟩) o (acts:=[]) (z':=.live ⟨at_ .wk,yk,Q3,Q4,g',w'⟩ r' H) Y9 rfl (Aw c.size) (λP u bl e=>?_) (λA B e=>by cases e) (e1▸ziq rfl Y1) Y1 (λ_=>⟨⟨t.size,?_⟩,?_⟩) H Y9 ⟨mu,ms,st,sm,ρ,ve G d M W (by rw[Q0];rfl) (d.md.counted hs (by rw[Q2];simp[jL.stage]) (.inl rfl) 0 0) (λP u bl e hp=>?_),.inr ⟨hbl.hm,R⟩⟩ (F6 hs (by rw[Q2];exact ao _)))
  .cases e;exact⟨rfl,Q,hB,rfl,hyk,by rw[e1];rfl,.inr rfl⟩
  .rw[Cz,e1];exact xT.new hyd _ _
  .exact K s _ _ _ _ G (x6 c (λ_ _=>id) (λ_=>⟨_,_,M⟩) (λ_=>⟨_,_,W⟩) id) hF
  .cases e;cases hp|wk J g' w' es c l hB=>
  have⟨r',Q,hB⟩:=hB;have⟨yT,yk,Q3,Q4,yg,yw⟩:=y;simp  at J;subst J;have⟨b1,b2,b3⟩:=x4 l Y1 Y1 Y1 Y1;have M:=(c.blk _ id).trans d.mA;have W:WgAt ph.tW ph.Wg w' st sm:=(c.blk _ id).trans d.gA;have o:EfR ph Q3 s w w':=sD c.blk c.size c.os c.output (λb e=>e.elim) id (λ_=>⟨_,_,M⟩) (λ_=>⟨_,_,W⟩);have m:=h.rel s hs (by rw[Q0];rfl);rw[Q0]at m;refine mn (h.xY K r1 hs Q0 (.inl ⟨rfl,c.st⟩) o (acts:=[]) (z':=.live ⟨at_ .d1,yk,Q3,Q4,g',w'⟩ r' H) Y9 rfl (Aw c.size) (λP u bl e=>?_) (λA B e=>by cases e) (λe he=>Em (b1 e he)) Y1 (λ_=>⟨Jc hyd m.1 b1 b3,?_⟩) H Y9 ⟨mu,ms,st,sm,ρ,ve G d M W (by rw[Q0];rfl) (d.md.counted hs (by rw[Q2];simp[jL.stage]) (.inr rfl) 0 0) (λP u bl e hp=>?_),.inr ⟨hbl.hm,R⟩⟩ (F6 hs (by rw[Q2];exact ao _)))
  .cases e;exact⟨rfl,Q,hB,rfl,hyk,b2,.inr rfl⟩
  .exact K s _ _ _ _ G (x6 c (λ_ _=>id) (λ_=>⟨_,_,M⟩) (λ_=>⟨_,_,W⟩) id) m.2
  .cases e;cases hp|d1 J N=>
  have⟨yT,yk,Q3,Q4,yg,yw⟩:=y;simp  at J;subst J;have m:=h.rel s hs (by rw[Q0];rfl);rw[Q0]at m;have zyE:(DZ Z s).stage=5:=by rw[Q2];rfl
  have hc1:cnt (DZ Z s)=1:=by simp[cnt,zyE]
  have hV1:1<=Vc j (DZ Z):=by have:=Go.ConcN.le_sumTo (f:=λi=>cnt (DZ Z i)) hs;simp[Vc];omega
  have hVp:Vc j (DZ Z)+pend (lQ H x.T)<=2:=by have O:=Vc_le j (DZ Z);have S:=h.jT;cases hx:x.T<;>rw[hx]at S<;>simp[jOk]at S<;>simp[lQ,pend]<;>first|omega|(simp;omega)
  have zqD:∀{g':av}{w':V}{es:Array bB}{st':Int}{n:Nat},Mz prog (λb=>b=ph.Wg) yg w g' w' es->WgAt ph.tW ph.Wg w' st' 0->lj ph.Mu ph.Wg (at_ .d1) (at_ .quit) es->lR prog n 1 g'->Go.ConcN.Mode j (upd (DZ Z) s ⟨1,0,0⟩) (lQ H x.T) st' 0->WG ph F cF csF W0 dead n1 R0 wg fH x rc j r1 (zK r1 rc Z (IN gs q bm Z)) gs w sl t (fH s):=by intro g' w' es st' n c W l hq hmd;have⟨b1,b2,b3⟩:=x4 l Y1 Y1 Y1 Y1;have b2:cu (at_ .d1).deaf es=1:=b2;have M:MuAt ph.tM ph.Mu w' mu ms:=(c.blk _ Q1.mw).trans d.mA;have o:EfR ph Q3 s w w':=sD (ex:=λb=>b=ph.Wg) c.blk c.size c.os c.output (λb e=>.inr (.inl e)) (λe=>Q1.wb e.symm) (λ_=>⟨_,_,M⟩) (λ_=>⟨_,_,W⟩);refine mn (w':=w') (h.xY K r1 hs Q0 (.inl ⟨rfl,c.st⟩) o (acts:=[]) (z':=.gone Q3 Q4) Y9 rfl (Aw c.size) (λP u bl e=>by cases e) (λA B e=>⟨n,by rw[b2];exact hq⟩) (λe he=>Em (b1 e he)) Y1 (λ_=>⟨Jc hyd m.1 b1 b3,?_⟩) H Y9 ⟨mu,ms,st',0,ρ,ve G d M W (by rw[Q0];rfl) hmd (λP u bl e hp=>by cases e),.inr ⟨λ_=>rfl,R⟩⟩ (F6 hs (by rw[hc1];simp[cnt,jL.stage])));exact K s _ _ _ _ G (x6 c (λb hb e=>hSt b hb (.inr (.inl e))) (λ_=>⟨_,_,M⟩) (λ_=>⟨_,_,W⟩) (λe=>Q1.wb e.symm)) m.2
  have opq:OpenSt j (DZ Z)->OpenSt j (upd (DZ Z) s ⟨1,0,0⟩):=λh a ha=>by
   by_cases e:a=s;.subst e;rw[kL];simp
   .rw[xW _ _ e];exact h a ha
  have hVu:=Vc_upd (DZ Z) (⟨1,0,0⟩:WD) hs;have hc0:cnt (⟨1,0,0⟩:WD)=0:=rfl;have hmd:=d.md;have hgA:=d.gA;generalize zqJ:lQ H x.T=tag at hmd hVp;rw[zqJ]at zqD
  cases hmd with |opn k1 k2 k3=>
   have⟨v,hv⟩:∃v,Vc j (DZ Z)+pend tag=v+1:=⟨Vc j (DZ Z)+pend tag-1,Y0⟩;rw[hv]at hgA;have⟨g',w',es,c,W,zij⟩:=N v 0 Y0 Y0 (by simpa using hgA);rcases zij with⟨_,h0,_⟩|⟨_,l,n,hq⟩;.cases h0
   .apply zqD c W l hq;have hv':Vc j (upd (DZ Z) s ⟨1,0,0⟩)+pend tag=v:=Y0;have e:((v:Nat):Int)*KK+((0:Nat):Int)=((Vc j (upd (DZ Z) s ⟨1,0,0⟩)+pend tag:Nat):Int)*KK:=by rw[hv'];simp
    rw[e];exact .opn k1 (opq k2) (λvs ev=>by have:=k3 vs ev;omega)|reg k1 k2 k3=>
   have⟨v,hv⟩:∃v,Vc j (DZ Z)=v+1:=⟨Vc j (DZ Z)-1,Y0⟩;rw[hv]at hgA;have⟨g',w',es,c,W,zij⟩:=N v 1 Y0 Y0 (by simpa using hgA);rcases zij with⟨h0,_,l,r',Q,hB⟩|⟨h0,l,n,hq⟩
   .subst h0;have⟨b1,b2,b3⟩:=x4 l Y1 Y1 Y1 Y1;have M:MuAt ph.tM ph.Mu w' mu ms:=(c.blk _ Q1.mw).trans d.mA;have o:EfR ph Q3 s w w':=sD (ex:=λb=>b=ph.Wg) c.blk c.size c.os c.output (λb e=>.inr (.inl e)) (λe=>Q1.wb e.symm) (λ_=>⟨_,_,M⟩) (λ_=>⟨_,_,W⟩);have zne:∀a,a<j->a≠s->(DZ Z a).stage=1:=λa ha e=>by have c0:=others_uncounted hs hv hc1 a ha e;have:=k2 a ha;simp only[cnt]at c0;split at c0<;>omega
    have Q5:Go.ConcN.Mode j (upd (DZ Z) s ⟨4,0,0⟩) tag 1 0:=by have:=Go.ConcN.Mode.last (j:=j) (D:=upd (DZ Z) s ⟨4,0,0⟩) (tag:=tag) s k1 hs (by rw[kL];simp) (λa ha e=>by rw[xW _ _ e];exact zne a ha e);rw[kL]at this;simpa using this
    have zym:WgAt ph.tW ph.Wg w' 1 0:=by simpa using W
    refine mn (w':=w') (h.xY K r1 hs Q0 (.inl ⟨rfl,c.st⟩) o (acts:=[]) (z':=.live ⟨at_ .d2,yk,Q3,Q4,g',w'⟩ r' H) Y9 rfl (Aw c.size) (λP u bl e=>?_) (λA B e=>by cases e) (λe he=>Em (b1 e he)) Y1 (λ_=>⟨Jc hyd m.1 b1 b3,?_⟩) H Y9 ⟨mu,ms,1,0,ρ,ve G d M zym (by rw[Q0];rfl) (by rw[zqJ];exact Q5) (λP u bl e hp=>?_),.inr ⟨λ_=>rfl,R⟩⟩ (F6 hs (by rw[hc1];simp[cnt,jL.stage])))
    .cases e;exact⟨rfl,Q,hB,rfl,hyk,b2,.inr rfl⟩
    .exact K s _ _ _ _ G (x6 c (λb hb e=>hSt b hb (.inr (.inl e))) (λ_=>⟨_,_,M⟩) (λ_=>⟨_,_,W⟩) (λe=>Q1.wb e.symm)) m.2
    .cases e;cases hp
   .have hv0:=λe=>h0 ⟨e,rfl⟩;apply zqD c W l hq;have hv':Vc j (upd (DZ Z) s ⟨1,0,0⟩)=v:=Y0;have e:((v:Nat):Int)*KK+((1:Nat):Int)=((Vc j (upd (DZ Z) s ⟨1,0,0⟩):Nat):Int)*KK+1:=by rw[hv'];simp
    rw[e];exact .reg k1 (opq k2) Y0|last L _ k2 k3 k4=>
   by_cases e:s=L;.subst e;omega
   .have:=k4 s hs e;omega|sema k2=>have:=k2 s hs;omega|fin _ k2=>have:=k2 s hs;omega
 |d2 J N=>
  have⟨yT,yk,Q3,Q4,yg,yw⟩:=y;simp  at J;subst J;have m:=h.rel s hs (by rw[Q0];rfl);rw[Q0]at m;have I:(DZ Z s).stage=4:=by rw[Q2];rfl
  have⟨hW3,Zj,p,hsm⟩:=d.md.isLast hs (.inl I);rw[I]at p;subst p hsm;have⟨g',w',es,c,l,r',Q,hB⟩:=N d.gA;have⟨b1,b2,b3⟩:=x4 l Y1 Y1 Y1 Y1;have M:MuAt ph.tM ph.Mu w' mu ms:=(c.blk _ id).trans d.mA;have W:WgAt ph.tW ph.Wg w' 1 0:=(c.blk _ id).trans d.gA;have o:EfR ph Q3 s w w':=sD (ex:=λ_=>False) c.blk c.size c.os c.output (λb e=>e.elim) id (λ_=>⟨_,_,M⟩) (λ_=>⟨_,_,W⟩);have Q5:Go.ConcN.Mode j (upd (DZ Z) s ⟨3,0,0⟩) (lQ H x.T) 1 0:=by have:=Go.ConcN.Mode.last (j:=j) (D:=upd (DZ Z) s ⟨3,0,0⟩) (tag:=lQ H x.T) s hW3 hs (by rw[kL];simp) (λa ha e=>by rw[xW _ _ e];exact Zj a ha e);rw[kL]at this;simpa using this
  refine mn (w':=w') (h.xY K r1 hs Q0 (.inl ⟨rfl,c.st⟩) o (acts:=[]) (z':=.live ⟨at_ .d3,yk,Q3,Q4,g',w'⟩ r' H) Y9 rfl (Aw c.size) (λP u bl e=>?_) (λA B e=>by cases e) (λe he=>Em (b1 e he)) Y1 (λ_=>⟨Jc hyd m.1 b1 b3,?_⟩) H Y9 ⟨mu,ms,1,0,ρ,ve G d M W (by rw[Q0];rfl) Q5 (λP u bl e hp=>?_),.inr ⟨λ_=>rfl,R⟩⟩ (F6 hs (by simp[cnt,jL.stage])));.cases e;exact⟨rfl,Q,hB,rfl,hyk,b2,.inr rfl⟩
  .exact K s _ _ _ _ G (x6 c (λ_ _=>id) (λ_=>⟨_,_,M⟩) (λ_=>⟨_,_,W⟩) id) m.2
  .cases e;cases hp|d3 J N=>
  have⟨yT,yk,Q3,Q4,yg,yw⟩:=y;simp  at J;subst J;have m:=h.rel s hs (by rw[Q0];rfl);rw[Q0]at m;have I:(DZ Z s).stage=3:=by rw[Q2];rfl
  have⟨hW3,Zj,p,hsm⟩:=d.md.isLast hs (.inr (.inl I));rw[I]at p;have p:st=1:=p;subst p hsm;have⟨g',w',es,c,W,l,r',Q,hB⟩:=N d.gA;have⟨b1,b2,b3⟩:=x4 l Y1 Y1 Y1 Y1;have M:MuAt ph.tM ph.Mu w' mu ms:=(c.blk _ Q1.mw).trans d.mA;have o:EfR ph Q3 s w w':=sD c.blk c.size c.os c.output (λb e=>.inr (.inl e)) (λe=>Q1.wb e.symm) (λ_=>⟨_,_,M⟩) (λ_=>⟨_,_,W⟩);have Q5:Go.ConcN.Mode j (upd (DZ Z) s ⟨2,0,0⟩) (lQ H x.T) 0 0:=by have:=Go.ConcN.Mode.last (D:=upd (DZ Z) s ⟨2,0,0⟩) (tag:=lQ H x.T) s hW3 hs (by rw[kL];simp) (λa ha e=>by rw[xW _ _ e];exact Zj a ha e);rw[kL]at this;simpa using this
  refine mn (w':=w') (h.xY K r1 hs Q0 (.inl ⟨rfl,c.st⟩) o (acts:=[]) (z':=.live ⟨at_ .d4,yk,Q3,Q4,g',w'⟩ r' H) Y9 rfl (Aw c.size) (λP u bl e=>?_) (λA B e=>by cases e) (λe he=>Em (b1 e he)) Y1 (λ_=>⟨Jc hyd m.1 b1 b3,?_⟩) H Y9 ⟨mu,ms,0,0,ρ,ve G d M W (by rw[Q0];rfl) Q5 (λP u bl e hp=>?_),.inr ⟨λ_=>rfl,R⟩⟩ (F6 hs (by simp[cnt,jL.stage])));.cases e;exact⟨rfl,Q,hB,rfl,hyk,b2,.inr rfl⟩
  .exact K s _ _ _ _ G (x6 c (λb hb e=>hSt b hb (.inr (.inl e))) (λ_=>⟨_,_,M⟩) (λ_=>⟨_,_,W⟩) (λe=>Q1.wb e.symm)) m.2
  .cases e;cases hp|d4 J N=>
  have⟨yT,yk,Q3,Q4,yg,yw⟩:=y;simp  at J;subst J;have m:=h.rel s hs (by rw[Q0];rfl);rw[Q0]at m;have I:(DZ Z s).stage=2:=by rw[Q2];rfl
  have⟨hW3,Zj,p,hsm⟩:=d.md.isLast hs (.inr (.inr I));rw[I]at p;subst p hsm;have⟨hmw,g',w',es,c,W,l,n,hq⟩:=N d.gA;have⟨b1,b2,b3⟩:=x4 l Y1 Y1 Y1 Y1;have b2:cu (at_ .d4).deaf es=1:=b2;have M:MuAt ph.tM ph.Mu w' mu ms:=(c.blk _ Q1.mw).trans d.mA;have o:EfR ph Q3 s w w':=sD c.blk c.size c.os c.output (λb e=>.inr (.inl e)) (λe=>Q1.wb e.symm) (λ_=>⟨_,_,M⟩) (λ_=>⟨_,_,W⟩);have htw:lQ H x.T=.w3:=by cases hx:x.T<;>rw[hx]at hW3<;>simp[lQ]at hW3⊢<;>first|rfl|cases hW3
  have Q5:Go.ConcN.Mode j (upd (DZ Z) s ⟨1,0,0⟩) (lQ H x.T) 0 1:=by
   rw[htw];exact .sema λa ha=>by
    by_cases e:a=s;.subst e;rw[kL]
    .rw[xW _ _ e];exact Zj a ha e
  have hgr:g'.status=.running:=by cases n with|zero=>exact absurd hq.2 Y5|succ n=>exact hq.elim (λz=>absurd z.2 Y5) λz=>z.1
  refine mn (w':=w') (h.xY K r1 hs Q0 (.inl ⟨rfl,c.st⟩) o (acts:=[]) (z':=.gone Q3 Q4) Y9 rfl (Aw c.size) (λP u bl e=>by cases e) (λA B e=>⟨n,by rw[b2];exact hq⟩) (λe he=>Em (b1 e he)) Y1 (λ_=>⟨Jc hyd m.1 b1 b3,?_⟩) E (λ_=>⟨hmw,hgr,rfl,c.st⟩) ⟨mu,ms,0,1,ρ,ve G d M W (by rw[Q0];rfl) Q5 (λP u bl e hp=>by cases e),.inl rfl⟩ (F6 hs (by simp[cnt,jL.stage])));exact K s _ _ _ _ G (x6 c (λb hb e=>hSt b hb (.inr (.inl e))) (λ_=>⟨_,_,M⟩) (λ_=>⟨_,_,W⟩) (λe=>Q1.wb e.symm)) m.2
end
section
variable{ph:Ph}{F:Nat->(Nat->Prop)->(Nat->Prop)->V->Prop}{cF:ag}{csF:List ag}{W0:V}{dead:Nat->Prop}{n1:Nat}{R0:BR}{wg:V}{fH:Nat->Nat}
variable{x x':Nm}{rc z8:Rk}{bm:Bool}{j:Nat}{Z:Nat->jL}{q:Nat->Nat}{gs:Array av}{w w':V}{t:nb}{sl:Option (Nat×Nat)}
def zi6{W R:Nat->Prop}{g:av}{v:Array bB}{s:List ic}{Wx Rx:Nat->Loc->Prop}(j:∀e∈v,s0 ph 2 E W R e)(k:∀a∈s,La a)(o:∀l b,s5 l=C b->W b->Wx 0 l)(p:∀l b,s5 l=C b->R b->Rx 0 l)(q:∀l,zqK ph (2*ph.d) (2*ph.d+ph.d) l->Wx 0 l)(z:∀e∈v,∀b,W b\/R b\/ph.sh b->b<w'.heap.size):(∀op∈jQ 0 g v s,op.g=0)/\(∀op∈jQ 0 g v s,OkT (ShL ph) Wx Rx 0 op)/\∀op∈jQ 0 g v s,∀y,op.act.touch?=C y->∀b,s5 y.loc=C b->b<w'.heap.size:=by
 refine⟨λop r=>(fy r).1,λop r=>⟨(fy r).1,?_,?_⟩,λop r y h b i=>?_⟩
 .rcases(fy r).2 with⟨e,t,u⟩|⟨a,t,u⟩;.rw[u];exact(j e t).2
  .rw[u];exactλad=>(k a t).2 _
 .intro y h;rcases(fy r).2 with⟨e,t,u⟩|⟨a,t,u⟩
  .rw[u]at h;rcases(j e t).1 y h with⟨b,f,c|⟨c,m⟩⟩|⟨a,f,c,m,n⟩|⟨a,f,c,m,n⟩;.simp_all
   .simp_all
   .exact .inr (.inl (q _ ⟨a,f,c,m,n⟩))
   .exact .inl ⟨⟨a.block,by rw[f];rfl,c⟩,m,λ_=>rfl⟩
  .rw[u,(k a t).1]at h;cases h
 .rcases(fy r).2 with⟨e,t,u⟩|⟨a,t,u⟩
  .rw[u]at h;rcases(j e t).1 y h with⟨w,f,c|⟨c,m⟩⟩|⟨a,f,c,_⟩|⟨a,f,c,_⟩;.grind
   .grind
   .rw[f]at i;cases i;exact z e t _ (.inr (.inr (.inr (.inr c))))
   .rw[f]at i;cases i;exact z e t _ (.inr (.inr (c.elim .inl λe=>.inr (.inl e))))
  .rw[u,(k a t).1]at h;cases h
def Mem.zoF(m:Mem ph W0 n1 x Z w){g:Nat->jL}(s:w.heap.size<=w'.heap.size)(j:∀i,(g i).rs=(Z i).rs)(z:∀i,(g i).ws=(Z i).ws)(r:∀b,x'.RS b->x.RS b)(p:∀b,x'.WS b->x.WS b\/(w.heap.size<=b/\b<w'.heap.size/\¬ph.sh b)):Mem ph W0 n1 x' g w':=by
 have q:=m.le;refine⟨m.okp,m.shl,bw m.le s,m.wn,λb a=>?_,λb a=>m.rm b (r b a),λi b a=>?_,λi b a=>?_,λi b a k=>?_,λi l b a d=>?_⟩
 .rcases p b a with h|⟨e,f,c⟩
  .have⟨e,f,c⟩:=m.wm b h;grind
  .grind
 .rw[z]at a;have⟨e,f,c⟩:=m.wf i b a;grind
 .rw[j]at a;have⟨e,f,c,n⟩:=m.rf i b a;refine⟨Y0,f,λk=>?_,λl k=>n l Y7⟩;rcases p b k with h|⟨o,_⟩;.exact c h
  .omega
 .rw[z]at k;rcases p b a with h|⟨o,_⟩;.exact m.mf i b h k
  .have:=(m.wf i b k).2.1;omega
 .rw[z]at a d;exact m.ff i l b a d
def YZ(ph:Ph)(F:Nat->(Nat->Prop)->(Nat->Prop)->V->Prop)(cF:ag)(csF:List ag)(W0:V)(dead:Nat->Prop)(n1:Nat)(R0:BR)(wg:V)(r:Rk)(μ:Ms)(gs:Array av)(w:V)(sl:Option (Nat×Nat))(t:nb):Prop:=∃m o g w' k x' z8 b j Z q,runT prog (crowd gs w sl) 0=(.next m,o)/\m=crowd g w' sl/\gs.size<=g.size/\RI ph F cF csF W0 dead n1 R0 wg k x' z8 b j Z q g w' (t++o)/\Ms.lt (zK r z8 Z (IN g q b Z)) μ
def RI.zb1(Q0:∀s WS RS w bd,s<2->fF ph s (λb=>WS b\/RS b) w bd->F s WS RS w->F s WS RS bd)(h:RI ph F cF csF W0 dead n1 R0 wg fH x rc H j Z q gs w t)(r1:Rk)(Q1:Rk.lt z8 rc){es:Array bB}{acts:List ic}(W:Mv prog E x.g w x'.g x'.w es acts)(G:EfR ph x.WS 2 w x'.w)(J:BhM prog ph F cF csF z8 x')(Q2:x'.RS=x.RS)(K:∀b,x'.WS b↔x.WS b\/(w.heap.size<=b/\b<x'.w.heap.size/\¬ph.sh b))(hd:cu x.d es=x'.d)(X:∀e∈es,s0 ph 2 E x'.WS x.RS e)(L:∀a∈acts,La a)(Q3:x.T=.st->es=#[])(hxs:∀b,x'.XS b->x'.T=.st/\ph.sh b)(hjT:jOk x'.T j)(hkz:kOk (Vc j (DZ Z)) x'.T x'.k)(YF:x'.T≠.st->∀b,ph.sh b->b<x'.w.heap.size)(hst:x'.T=.st->x.T=.st)(hsy:x'.T≠.st->∃mu ms st sm ρ,zbw ph j x'.T Z x'.w mu ms st sm ρ/\∀s y r,s<j->Z s=.live y r E->vI y.T.pc=E/\mv (s==0) y.T ⟨mu,ms,KKi,0⟩=[]):YZ ph F cF csF W0 dead n1 R0 wg r1 (zK r1 rc Z (IN gs q H Z)) gs w sl t:=by
 have hj2:=I4 h.jT;have hg:gs[0]?=C x.g:=h.main;have h0:=(ab.1 hg).1;have⟨f,hf,_,fj⟩:=Ot (sl:=sl) hg h.free W;have⟨bm',fl,_,M⟩:=zif h hf H Y9;let v:Nat->jL:=λi=>lS (Z i) (fl i);have B:Mem ph W0 n1 x' v x'.w:=h.mem.zoF G.size (λi=>pT _ _) (λi=>pU _ _) (λb n=>by rw[Q2]at n;exact n) λb n=>(K b).1 n;have N:DZ v=DZ Z:=by funext i;simp[DZ,v,yA]
 have Q4:∀i,i<j->∀(St:Nat->Prop),(∀b,St b->(Z i).ws b\/(Z i).rs b)->fF ph i St w x'.w:=λi hi St hSt=>G.rly Y0 Y0 λb n=>by
  rcases hSt b n with m|m;.have⟨_,a2,a3⟩:=h.mem.wf i b m;exact⟨a2,λO=>h.mem.mf i b O m,a3⟩
  .have⟨a1,a2,a3,_⟩:=h.mem.rf i b m;exact⟨a1,a3,a2⟩
 have P:∀e∈es,∀b,ph.sh b->b<x'.w.heap.size:=λe wR b n=>by
  by_cases e1:x.T=.st;.rw[Q3 e1]at wR;simp at wR
  .exact aO (h.sz e1 b n) G.size
 have⟨o1,o2,o3⟩:=zi6 (w':=x'.w) (g:=x.g) (Wx:=WR ph j fH x' v) (Rx:=RR j fH x' v) X L (λl b m p=>.inl ⟨rfl,.inl ⟨b,m,p⟩⟩) (λl b m p=>.inl ⟨rfl,b,m,by rw[Q2];exact p⟩) (λl⟨a,m,p,Q,_⟩=>.inl ⟨rfl,.inr ⟨a,m,p,bw (bk _ hj2) Q⟩⟩) (λe wR b n=>by
   rcases n with n|n|n;.exact(B.wm b n).2.1
   .exact aO (h.mem.rm b n) B.le
   .exact P e wR b n);have hold:∀b,b<n1->x'.w.heap[b]?=w.heap[b]?:=λb n=>by
  have p:=h.mem.le;refine G.blk b Y0 (λO=>?_) (λhsh=>?_);.have:=(h.mem.wm b O).1;omega
  .have:=h.mem.shl b hsh;omega
 have hti:TI (ShL ph) (DdL (Dt ph dead)) (wkR j fH) (WR ph j fH x' v) (RR j fH x' v) t:=by
  have new:∀{l:Loc}{b:Nat},s5 l=C b->w.heap.size<=b->∀i y,qA t i=C y->y.loc≠l:=λm p i y O e=>by have:=h.cb.bnd i y O _ (e▸m);omega
  refine h.ti.W5 (λg l hw=>?_) (λg l hr=>?_) (λl hl=>.inl hl) (λl hl=>hl) (λk hk=>hk)
  .rcases hw with⟨rfl,⟨b,m,p⟩|m⟩|⟨i,hi,rfl,⟨b,m,p⟩|m⟩
   .rcases(K b).1 p with Q|⟨Q,_⟩;.exact .inl (.inl ⟨rfl,.inl ⟨b,m,Q⟩⟩)
    .exact .inr (new m Q)
   .exact .inl (.inl ⟨rfl,.inr m⟩)
   .rw[show(v i).ws=(Z i).ws from pU _ _]at p;exact .inl (.inr ⟨i,hi,rfl,.inl ⟨b,m,p⟩⟩)
   .exact .inl (.inr ⟨i,hi,rfl,.inr m⟩)
  .rcases hr with⟨rfl,b,m,p⟩|⟨i,hi,rfl,b,m,p⟩
   .rw[Q2]at p;exact .inr (.inl (.inl ⟨rfl,b,m,p⟩))
   .rw[show(v i).rs=(Z i).rs from pT _ _]at p;exact .inr (.inl (.inr ⟨i,hi,rfl,b,m,p⟩))
 have o:((gs.map f).setIfInBounds 0 x'.g).size=gs.size:=eY;have hlv:vH prog ((gs.map f).setIfInBounds 0 x'.g) (t++jQ 0 x.g es acts) (λi=>∃s,s<j/\i=fH s/\(v s).oK) q:=((h.lv.move hf (.inl rfl)).app o1 (.inl rfl)).sub λi⟨s',a1,a2,a3⟩=>⟨s',a1,a2,(vo _ _).2 a3⟩;refine⟨_,_,_,x'.w,fH,x',z8,H,j,v,q,fj,rfl,cI o.symm,?_,.c rfl Q1⟩;refine⟨eO h0,Y9,J,by rw[GG L,h.deaf];exact hd,by rw[N];exact hkz,hjT,hlv,λi hi=>by show lS (Z i) _=_;rw[h.no i hi];rfl,λi hi hn=>h.yes i hi ((Ju _ _).1 hn),λi hi=>by rw[o];exact h.kd0 i hi,h.SX,λi D I bl hi Q5=>?_,λi hi hm=>?_,B,hxs,?_,h.gl,hti.app B.zmt (.inl rfl) o2,?_,YF,λhT=>?_⟩
 .obtain⟨rfl,A,z⟩:=mo Q5;have⟨a1,a2,a3,a4,a5,a6⟩:=h.wk i D I A hi z;have⟨b1,b2,_⟩:=M i D I A hi z;have R:=(h.kd0 i hi).1;refine⟨?_,λe=>a2 (b2 e),?_,?_,a5,a6⟩
  .rw[qV _ R,a1];exact congrArg C b1
  .exact Xc (x:={D with w:=w}) a3 (Q4 i hi (Nw.St {D with w:=w}) λb n=>by rw[z];exact n)
  .rw[l1 t (cA R) _ o1];exact a4
 .rw[show(v i).Dv=(Z i).Dv from yz _ _]at hm;have⟨⟨r2,c1⟩,c2⟩:=h.rel i hi hm;refine⟨⟨r2,c1.Gy o1 (cA (h.kd0 i hi).1)⟩,?_⟩;rw[show(v i).ws=(Z i).ws from pU _ _,show(v i).rs=(Z i).rs from pT _ _];exact Q0 i _ _ _ _ Y0 (Q4 i hi _ λb n=>n) c2
 .exact h.gh.right λa b l r=>hold b (h.gl a b l r)
 .refine h.cb.step G.size (λb n=>hold b (aO n h.mem.wn)) (cI o.symm) G.os G.output λop oz=>⟨by rw[o1 op oz,o];exact h0,o3 op oz⟩
 .obtain⟨mu,ms,st,sm,ρ,u,S⟩:=hsy hT;refine⟨mu,ms,st,sm,ρ,⟨u.mA,u.gA,by rw[N];exact u.md,?_,λi D I bl hi Q5 hp=>?_⟩,⟨Y9,λi D I hi Q5=>?_⟩⟩;.rw[show(v 0).fQ E=(Z 0).fQ E from tH _ _ _,show(v 1).fQ H=(Z 1).fQ H from tH _ _ _];exact u.tb
  .have⟨_,A,z⟩:=mo Q5;exact u.kk i D I A hi z hp
  .have⟨hf1,A,z⟩:=mo Q5;have hb0:=(M i D I A hi z).2.1 hf1.symm;subst hb0;exact S i D I hi z
def RI.zrb(h:RI ph F cF csF W0 dead n1 R0 wg fH x rc H j Z q gs w t)(v:Rk)(A:x.T=.w3)(B:x.g.offers=U)(c:bg prog E x.g w=.go {x.g with status:=.blocked} w #[]){mu u st:Int}{ρ:Nat}(d:zbw ph j x.T Z w mu u st 0 ρ)(e:zqi j H Z mu u 0):YZ ph F cF csF W0 dead n1 R0 wg v (zK v rc Z (IN gs q H Z)) gs w sl t:=by
 have f:gs[0]?=C x.g:=h.main;have k:=gr (sl:=sl) f c;have hid:woken prog x.g {x.g with status:=.blocked} w=id:=by funext o;unfold woken;rw[if_neg Y1];rfl
 rw[hid,Array.map_id,qL]at k;have s:(gs.setIfInBounds 0 {x.g with status:=.blocked}).size=gs.size:=Y1;have a:∀i,i≠0->(gs.setIfInBounds 0 {x.g with status:=.blocked})[i]?=gs[i]?:=Y8;refine⟨_,_,_,w,fH,x,rc,E,j,Z,q,k,rfl,cI s.symm,?_,?_⟩
 .rw[gg];refine⟨by rw[bM];simp[((ab.1 f).1),blk],λ_=>⟨A,B⟩,h.beh,h.deaf,h.kz,h.jT,λi g p D b=>h.lv i g p D Y7,h.no,h.yes,λi p=>by rw[s];exact h.kd0 i p,h.SX,λi y r G p z=>?_,h.rel,h.mem,h.xs,h.gh,h.gl,h.ti,⟨h.cb.old,h.cb.size,h.cb.bnd,h.cb.dlt,λi op p=>by rw[s];exact h.cb.ids i op p,h.cb.os,h.cb.output⟩,h.sz,λ_=>⟨mu,u,st,0,ρ,d,⟨λ_=>rfl,e.hl⟩⟩⟩;have⟨I,J⟩:=h.wk i y r G p z;exact⟨by rw[a _ (h.kd0 i p).1];exact I,J⟩
 .refine .n rfl rfl rfl rfl ?_;show IN _ q E Z<IN gs q H Z;unfold IN;rw[s];have l:zhD E=0:=rfl;have m:zhD H=1:=rfl;omega
def RI.zrK(h:RI ph F cF csF W0 dead n1 R0 wg fH x rc H j Z q gs w t)(r1:Rk)(hlt:Rk.lt z8 rc){i:Nat}(hT:x.T=.go i)(hd:x.d=0){g' s9:av}{R vE:Nat->Prop}(P:bg prog E x.g w=.spawn g' s9 w #[])(Q0:∀b,R b->x.WS b\/x.RS b)(I:∀b,vE b->x.WS b/\¬R b)(hc:∀kc,BH prog ph i (i==0) (F i) ⟨at_ .ld,kc,noX,R,s9,w⟩)(hB:BhM prog ph F cF csF z8 {x with T:=if i=0 then .ad 1 else .w1,g:=g',w:=w,WS:=vE}):YZ ph F cF csF W0 dead n1 R0 wg r1 (zK r1 rc Z (IN gs q H Z)) gs w sl t:=by
 have hjT:=h.jT;rw[hT]at hjT;obtain⟨rfl,hj2⟩:j=i/\i<2:=hjT;have Q1:x.T≠.st:=Y7;have hk3:3<=x.k:=by have:=h.kz;rw[hT]at this;exact this
 obtain⟨mu,ms,st,sm,ρ,G,hbl⟩:=h.sy Q1;have⟨oz,zyD,zyC,_⟩:=G.md.open_inv (by rw[hT];trivial);subst zyD zyC;have hg:gs[0]?=C x.g:=h.main;have h0:=(ab.1 hg).1;have fj:=runT_crowd_spawn (sl:=sl) hg P;rw[qL]at fj;generalize zCO:({g:=0,fn:=x.g.frame.fn,pos:=x.g.frame.place,act:=.go gs.size}:MemOp)=o at fj;generalize zCP:({g:=gs.size,fn:=s9.frame.fn,pos:=x.g.frame.place,act:=.start}:MemOp)=n at fj;have zqH:((#[]:nb).push o).push n=#[o,n]:=rfl;rw[zqH]at fj;have g1:o.g=0/\o.act=.go gs.size:=Y8;have g2:n.g=gs.size/\n.act=.start:=Y8;have P:∀k,Deaf (t++#[o,n]) k=Deaf t k:=λk=>Deaf_still _ _ _ λop oz=>by grind
 have N:Deaf t gs.size=0:=Go.ConcN.Deaf_absent λi op hi e=>by have:=h.cb.ids i op hi;omega
 have⟨r0,hb0⟩:=hc (ρ+1);let y0:Nw:=⟨at_ .ld,ρ+1,noX,R,s9,w⟩;let z0:jL:=.live y0 r0 H;let A:Nat->jL:=sA Z j z0;let Q2:Nat->Nat:=upd fH j gs.size;have p:A j=.live y0 r0 H:=kQ _ _ _;have u:∀i,i≠j->A i=Z i:=λi hi=>qB Z _ hi;have Q3:Q2 j=gs.size:=kL _ _ _;have K:∀i,i≠j->Q2 i=fH i:=λi hi=>xW _ _ hi;have J:((gs.setIfInBounds 0 g').push s9).size=gs.size+1:=Y1;have O:∀i,i≠0->i≠gs.size->((gs.setIfInBounds 0 g').push s9)[i]?=gs[i]?:=λi Q0 I=>by grind
 have z:∀s,s<j+1->s≠j->s<j:=λs Q0 I=>Y0;have zqG:Mem ph W0 n1 {x with T:=if j=0 then .ad 1 else .w1,g:=g',w:=w,WS:=vE} A w:=by
  have m:=h.mem;refine⟨m.okp,m.shl,m.le,m.wn,λb f=>m.wm b (I b f).1,m.rm,λs b f=>?_,λs b f=>?_,λs b f hs=>?_,λs s' b f L=>?_⟩
  .by_cases e:s=j;.subst e;rw[p]at f;cases f
   .rw[u s e]at f;exact m.wf s b f
  .have W:∀s' b,(A s').ws b->(Z s').ws b:=λs' b f=>by
    by_cases e:s'=j;.subst e;rw[p]at f;cases f
    .simp_all
   by_cases e:s=j
   .subst e;rw[p]at f;have hle:=m.le;rcases Q0 b f with h3|h3;.exact⟨(m.wm b h3).2.1,(m.wm b h3).2.2,λD=>(I b D).2 f,λs' D=>m.mf s' b h3 (W s' b D)⟩
    .have hr:=m.rm b h3;exact⟨Y0,λD=>(by have:=m.shl b D;omega),λD=>(I b D).2 f,λs' D=>by have:=(m.wf s' b (W s' b D)).1;omega⟩
   .rw[u s e]at f;have⟨a1,a2,a3,a4⟩:=m.rf s b f;exact⟨a1,a2,λD=>a3 (I b D).1,λs' D=>a4 s' (W s' b D)⟩
  .by_cases e:s=j;.subst e;rw[p]at hs;cases hs
   .rw[u s e]at hs;exact m.mf s b (I b f).1 hs
  .by_cases e:s=j;.subst e;rw[p]at f;cases f
   .by_cases Q:s'=j;.subst Q;rw[p]at L;cases L
    .rw[u s e]at f;rw[u s' Q]at L;exact m.ff s s' b f L
 have S:∀s,s<j->(DZ A s).stage=(DZ Z s).stage:=λs hs=>by simp[DZ];rw[u s Y0]
 have hvc:Vc (j+1) (DZ A)=Vc j (DZ Z)+1:=by
  show sumTo (j+1) _=_;have e1:sumTo (j+1) (λi=>cnt (DZ A i))=sumTo j (λi=>cnt (DZ A i))+cnt (DZ A j):=rfl;rw[e1,show cnt (DZ A j)=1 by simp[DZ];rw[p];rfl];have:sumTo j (λi=>cnt (DZ A i))=Vc j (DZ Z):=sumTo_congr λi hi=>by simp[cnt,S i hi]
  omega
 have hvl:=Vc_le j (DZ Z);have bsize:∀op∈#[o,n],∀y,op.act.touch?=C y->False:=λop oz y X=>by
  simp[ez,bq,cV,or_false]at oz;rcases oz with rfl|rfl;.rw[g1.2]at X;cases X
  .rw[g2.2]at X;cases X
 refine⟨_,_,_,w,Q2,{x with T:=if j=0 then .ad 1 else .w1,g:=g',w:=w,WS:=vE},z8,H,j+1,A,q,fj,rfl,Y0,?_,.c rfl hlt⟩;refine⟨?_,Y9,hB,by rw[P];exact h.deaf,?_,?_,λi g hi hn hgi=>?_,λs hs=>?_,λs hs=>?_,λs hs=>?_,λs s' hs hs' he=>?_,λs y r bl hs B=>?_,λs hs hm=>?_,zqG,λb f=>absurd (h.xs b f).1 Q1,h.gh,h.gl,?_,?_,λ_=>h.sz Q1,λ_=>?_⟩
 .rw[bx,if_neg (by simp;omega),bM];simp[h0,blk]
 .rw[hvc];split;.exact hk3
  .show _+1<=x.k;omega
 .show jOk (if j=0 then MT.ad 1 else .w1) (j+1);split;.subst_vars;exact⟨rfl,Y0⟩
  .show j+1=2;omega
 .have hne:i≠gs.size:=λe=>hn ⟨j,Y0,Y0,by rw[p];trivial⟩;rw[O i hi hne]at hgi;have⟨d,a1,a2⟩:=h.lv i g hi (λ⟨s,Q4,v,M⟩=>hn ⟨s,Y0,Y8,Y8⟩) hgi;exact⟨d,a1,Y7⟩
 .rw[u s Y0];exact h.no s Y0
 .by_cases e:s=j;.subst e;rw[p];exactλe=>by cases e
  .rw[u s e];exact h.yes s (z s hs e)
 .rw[J];by_cases e:s=j;.subst e;rw[Q3];omega
  .rw[K s e];have:=h.kd0 s (z s hs e);omega
 .by_cases e:s=j<;>by_cases Q:s'=j;.omega
  .subst e;rw[Q3,K s' Q]at he;have:=(h.kd0 s' (z s' hs' Q)).2;omega
  .subst Q;rw[Q3,K s e]at he;have:=(h.kd0 s (z s hs e)).2;omega
  .rw[K s e,K s' Q]at he;exact h.SX s s' (z s hs e) (z s' hs' Q) he
 .by_cases e:s=j
  .subst e;rw[p]at B;cases B;rw[Q3,P];exact⟨by rw[bx,if_pos Y1];rfl,Y9,hb0,N,Nat.succ_ne_zero ρ,.inl rfl⟩
  .rw[u s e]at B;have⟨a1,a2,a3,a4,a5⟩:=h.wk s y r bl (z s hs e) B;have⟨c1,c2⟩:=h.kd0 s (z s hs e);rw[K s e,P];exact⟨Y8,a2,a3,a4,a5⟩
 .by_cases e:s=j;.subst e;rw[p]at hm;cases hm
  .rw[u s e]at hm⊢;have⟨⟨r2,c1⟩,c2⟩:=h.rel s (z s hs e) hm;have⟨c3,c4⟩:=h.kd0 s (z s hs e);refine⟨⟨r2,?_⟩,c2⟩;rw[K s e];have e1:t++#[o,n]=(t++#[o])++#[n]:=Y8;rw[e1];refine xT.Gy (g:=gs.size) (xT.Gy c1 (λop oz=>?_) (cA c3)) (λop oz=>?_) Y0;.simp[ez,bq,cV,or_false]at oz;subst oz;exact g1.1
   .simp[ez,bq,cV,or_false]at oz;subst oz;exact g2.1
 .refine h.ti.iY g1 g2 (h.deaf.trans hd) N (λg l hw=>?_) (λg l hr=>?_) λk⟨s,a1,a2⟩=>⟨s,Y0,Y8⟩
  .rcases hw with⟨rfl,⟨b,Q4,v⟩|⟨a,Q4,v,M⟩⟩|⟨s,hs,rfl,f⟩;.exact .inl (.inl ⟨rfl,.inl ⟨b,Q4,(I b v).1⟩⟩)
   .exact .inl (.inl ⟨rfl,.inr ⟨a,Q4,v,bw (bk _ Y0) M⟩⟩)
   .by_cases e:s=j
    .subst e;rw[p]at f;rcases f with⟨b,Q4,v⟩|⟨a,Q4,v,M,b4⟩;.cases v
     .exact .inr ⟨Q3,.inl ⟨rfl,.inr ⟨a,Q4,v,M⟩⟩⟩
    .rw[u s e]at f;exact .inl (.inr ⟨s,z s hs e,K s e,f⟩)
  .rcases hr with⟨rfl,b,Q4,v⟩|⟨s,hs,rfl,b,Q4,v⟩;.exact .inr (.inl (.inl ⟨rfl,b,Q4,v⟩))
   .by_cases e:s=j
    .subst e;rw[p]at v;refine .inr (.inr ⟨Q3,?_⟩);rcases Q0 b v with M|M;.exact .inl (.inl ⟨rfl,.inl ⟨b,Q4,M⟩⟩)
     .exact .inr (.inl ⟨rfl,b,Q4,M⟩)
    .rw[u s e]at v;exact .inr (.inl (.inr ⟨s,z s hs e,K s e,b,Q4,v⟩))
 .refine h.cb.step (ao _) (λ_ _=>rfl) Y0 (.refl _) rfl λop oz=>⟨?_,λy X=>(bsize op oz y X).elim⟩;simp[ez,bq,cV,or_false]at oz;rw[J];rcases oz with rfl|rfl;.rw[g1.1];omega
  .rw[g2.1];omega
 .refine⟨mu,ms,_,0,ρ,⟨G.mA,G.gA,?_,?_,λs y r bl hs B hp=>?_⟩,⟨Y9,λs y r hs B=>?_⟩⟩
  .have e1:Vc j (DZ Z)+pend (lQ H x.T)=Vc (j+1) (DZ A)+pend (lQ H (if j=0 then MT.ad 1 else .w1)):=by rw[hvc,hT];have:pend (lQ H (.go j))=1:=rfl;rw[this];split<;>rfl
   rw[e1];refine .opn (by split<;>trivial) (λs hs=>?_) λvs ev=>by split at ev<;>cases ev
   by_cases e:s=j;.subst e;left;simp[DZ];rw[p];rfl
   .rw[S s (z s hs e)];exact oz s (z s hs e)
  .have:∀s gj,(A s).fQ gj=(Z s).fQ gj:=λs gj=>by
    by_cases e:s=j;.subst e;rw[p,h.no s (ao _)];rfl
    .rw[u s e]
   rw[this,this];exact G.tb
  .by_cases e:s=j;.subst e;rw[p]at B;cases B;exact Nat.lt_succ_self ρ
   .rw[u s e]at B;exact G.kk s y r bl (z s hs e) B hp
  .by_cases e:s=j;.subst e;rw[p]at B;cases B
   .rw[u s e]at B;exact hbl.hl s y r (z s hs e) B
def zbM(ph:Ph)(F:Nat->(Nat->Prop)->(Nat->Prop)->V->Prop)(cF:ag)(csF:List ag)(rc:Rk)(x:Nm)(w:V):Prop:=x.T=.aq/\x.d=0/\∃g',bg prog E x.g w=.go g' w #[Go.ConcR.mk (.acquire (stA ph.Wg))]/\∀c iR:Array Y,c.size=ph.d->iR.size=ph.d->(c++iR).all nF=E->zx ph w (c++iR)->∃r,Rk.lt r rc/\BhM prog ph F cF csF r {x with T:=.fin c iR,RS:=λb=>b=ph.Bo,g:=g',w:=w}
def zva{W:Nat->jL}(h:∀s,W s=.no):(⟨(W 0).fQ E,(W 1).fQ H,⟨0,0,KKi,0⟩⟩:GS)=GS.start:=by rw[h 0,h 1];rfl
def zph{T:ah}{b:Nat}{w:V}{c:Array Y}(h:w.heap[b]?=C (.cells c T)):b<w.heap.size:=Y8
def znE{Z:Nat->jL}{j:Nat}(h:OpenSt j (DZ Z))(b:Vc j (DZ Z)=0):AllQuit j (DZ Z):=λs e=>by
 have c:=Go.ConcN.le_sumTo (f:=λi=>cnt (DZ Z i)) e;have a:cnt (DZ Z s)=0:=by simp[Vc]at b;omega
 have d:=h s e;simp only[cnt]at a;split at a<;>omega
def RI.zku(Q:∀s WS RS w bd,s<2->fF ph s (λb=>WS b\/RS b) w bd->F s WS RS w->F s WS RS bd)(h:RI ph F cF csF W0 dead n1 R0 wg fH x rc bm j Z q gs w t)(r1:Rk){g:av}(S:gs[0]?=C g)(fj:g.status=.running):YZ ph F cF csF W0 dead n1 R0 wg r1 (zK r1 rc Z (IN gs q bm Z)) gs w sl t\/(zbM ph F cF csF rc x w/\bm=H):=by have hj2:=I4 h.jT;cases bm with|true=>rw[h.main]at S;cases S;cases fj|false=>
 have I:=h.mem.okp;have M:=λb h1 z=>(h.mem.wm b z).2.2 h1;have Q0:∀{w':V},w'.heap.size=w.heap.size->∀b,x.WS b↔x.WS b\/(w.heap.size<=b/\b<w'.heap.size/\¬ph.sh b):=Y8;have u:=h.kz;have n:=h.jT;have Q1:∀{R:MT}{k':Nat}{g':av}{w':V}{es:Array bB}{ex:Nat->Prop}{z8:Rk}{N O:Int},x.T≠.st->(∀b,ex b->b=ph.Wg)->Wi prog ph ex x.WS x.RS x.g w g' w' es->Rk.lt z8 rc->BhM prog ph F cF csF z8 {x with T:=R,k:=k',g:=g',w:=w',d:=cu x.d es}->WgAt ph.tW ph.Wg w' N O->R≠.st->jOk R j->kOk (Vc j (DZ Z)) R k'->Go.ConcN.Mode j (DZ Z) (lQ H R) N O->YZ ph F cF csF W0 dead n1 R0 wg r1 (zK r1 rc Z (IN gs q H Z)) gs w sl t:=by intro R k' g' w' es ex z8 N O hT hex c m B W hT' hj hk J;obtain⟨mu,ms,st,sm,ρ,f,G⟩:=h.sy hT;have Q2:=(c.blk _ λe=>I.mw (hex _ e)).trans f.mA;refine h.zb1 Q r1 m (x':={x with T:=R,k:=k',g:=g',w:=w',d:=cu x.d es}) (.inl ⟨rfl,c.st⟩) (sD c.blk c.size c.os c.output (λb e=>.inr (.inl (hex b e))) (λe=>I.wb (hex _ e).symm) (λ_=>⟨_,_,Q2⟩) (λ_=>⟨_,_,W⟩)) B rfl (Q0 c.size) rfl c.ev Y1 (λe=>absurd e hT) (λb K=>absurd (h.xs b K).1 hT) hj hk (λ_ b K=>by rw[c.size];exact h.sz hT b K) (λe=>absurd e hT') λ_=>⟨mu,ms,N,O,ρ,⟨Q2,W,J,f.tb,f.kk⟩,G.hl⟩
 cases(qR h.beh).2 w (IP.refl _)with|deep hk=>cases WV h.kz hk|Ac vE g' w' es l c B=>have⟨P,m,B⟩:=B;refine .inl (h.zb1 Q r1 m l.mv (Od l (ao _) I M) B rfl l.ws rfl l.ev l.acts c h.xs n u (λhT b K=>aO (h.sz hT b K) l.size) id λhT=>?_);obtain⟨mu,ms,st,sm,ρ,f,G⟩:=h.sy hT;exact⟨mu,ms,st,sm,ρ,⟨(l.blk _ (h.sz hT _ (.inl rfl)) (M _ (.inl rfl)) I.mb).trans f.mA,(l.blk _ (h.sz hT _ (.inr (.inl rfl))) (M _ (.inr (.inl rfl))) I.wb).trans f.gA,f.md,f.tb,f.kk⟩,G.hl⟩|est hT hd vE g' w' l hm hw K B=>
  have⟨P,m,B⟩:=B;have hj0:j=0:=by rw[hT]at n;exact n
  subst hj0;obtain⟨ρ,hρ⟩:=inT_start;refine .inl (h.zb1 Q r1 m l.mv (Od l (ao _) I M) B rfl l.ws (by rw[hd];rfl) l.ev l.acts (λ_=>rfl) (λb K=>K.elim) ⟨rfl,Y0⟩ (by rw[hT]at u;exact u) (λ_ b K=>?_) Y9 λ_=>?_)
  .rcases K with rfl|rfl|rfl;.exact zph hm
   .exact zph hw
   .have⟨cs,hc,_⟩:=K;grind
  .refine⟨0,0,0,0,ρ,⟨hm,hw,?_,by rw[zva (λs=>h.no s Y0)];exact hρ,λs y r bl hs _ _=>Y0⟩,λs y r hs _=>Y0⟩;have:=Go.ConcN.Mode.opn (j:=0) (D:=DZ Z) (tag:=.kd) trivial (λi hi=>Y0) λvs e=>by cases e
   simpa[Vc,sumTo,pend,lQ]using this|ad i hT A=>have o:x.T≠.st:=Y7;obtain⟨mu,ms,st,sm,ρ,f,G⟩:=h.sy o;have⟨oz,Q3,Q4,_⟩:=f.md.open_inv (by rw[hT];trivial);rw[hT]at n u;obtain⟨rfl,hi2⟩:j=i/\i<2:=n;have hV:=Vc_le j (DZ Z);subst Q3 Q4;have p:=f.gA;rw[hT,show Vc j (DZ Z)+pend (lQ H (.ad j))=Vc j (DZ Z)from rfl]at p;have⟨g',w',es,c,W,P,m,B⟩:=A _ Y0 p;refine .inl (Q1 o (λb e=>e) c m B W Y1 ⟨rfl,hi2⟩ u ?_);exact .opn trivial oz λvs e=>by cases e|go i hT hi hd g' s9 RSc vE c hr h1 z hc B=>have⟨P,m,B⟩:=B;exact .inl (h.zrK r1 m hT hd c h1 z hc B)|w1 hT A=>
  have o:x.T≠.st:=Y7;obtain⟨mu,ms,st,sm,ρ,f,G⟩:=h.sy o;have⟨oz,Q3,Q4,_⟩:=f.md.open_inv (by rw[hT];trivial);rw[hT]at n u;have hV:=Vc_le j (DZ Z);subst Q3 Q4;have p:=f.gA;rw[hT,show Vc j (DZ Z)+pend (lQ H .w1)=Vc j (DZ Z)from rfl]at p;have⟨g',es,c,P,m,B⟩:=A _ Y0 p;have hk1:Vc j (DZ Z)+1<=x.k:=u;by_cases hv:Vc j (DZ Z)=0
  .rw[if_pos hv]at B;refine .inl (Q1 o (λb e=>e.elim) c m B p Y1 n (show 1<=x.k by omega) ?_);rw[hv,show((0:Nat):Int)*KK=0 by simp];exact Go.ConcN.Mode.fin trivial (znE oz hv)
  .rw[if_neg hv]at B;refine .inl (Q1 o (λb e=>e.elim) c m B p Y1 n hk1 ?_);exact .opn trivial oz λvs e=>by cases e;omega|w2 v hT A=>
  have o:x.T≠.st:=Y7;obtain⟨mu,ms,st,sm,ρ,f,G⟩:=h.sy o;have⟨oz,Q3,Q4,hvs⟩:=f.md.open_inv (by rw[hT];trivial);have⟨hv1,hv2⟩:=hvs v (by rw[hT];rfl);rw[hT]at n u;have hV:=Vc_le j (DZ Z);subst Q3 Q4;have p:=f.gA;rw[hT,show Vc j (DZ Z)+pend (lQ H (.w2 v))=Vc j (DZ Z)from rfl]at p;have hk1:v+1<=x.k:=u;by_cases hv:Vc j (DZ Z)=v
  .have⟨g',w',es,c,W,P,m,B⟩:=(A _ Y0 p).1 hv;refine .inl (Q1 o (λb e=>e) c m B W Y1 n (show 1<=x.k by omega) ?_);exact .reg trivial oz Y0
  .have⟨g',es,c,P,m,B⟩:=(A _ Y0 p).2 hv;refine .inl (Q1 o (λb e=>e.elim) c m B p Y1 n (show Vc j (DZ Z)+1<=x.k-1 by omega) ?_);exact .opn trivial oz λvs e=>by cases e|w3 hT ho OB hl2=>
  have o:x.T≠.st:=Y7;obtain⟨mu,ms,st,sm,ρ,f,G⟩:=h.sy o;by_cases L:sm=0
  .subst L;exact .inl (h.zrb r1 hT ho (OB ⟨_,f.gA⟩) f ⟨λe=>(by cases e),G.hl⟩)
  .have J:=f.md;rw[hT]at J n u;have hq:st=0/\sm=1/\AllQuit j (DZ Z):=by generalize zqJ:lQ H .w3=tag at J;cases J with|opn h1 _ _=>cases L rfl|reg _ _ _=>cases L rfl|last _ _ _ _ _=>cases L rfl|sema z=>simp_all|fin _ _=>cases L rfl
   obtain⟨rfl,rfl,hq⟩:=hq;have⟨g',w',es,c,W,P,m,B⟩:=hl2 f.gA;exact .inl (Q1 o (λb e=>e) c m B W Y1 n u (.fin trivial hq))|w4 hT A=>have o:x.T≠.st:=Y7;obtain⟨mu,ms,st,sm,ρ,f,G⟩:=h.sy o;have⟨hq,Q3,Q4⟩:=f.md.fin_inv (by rw[hT];trivial);rw[hT]at n u;subst Q3 Q4;have⟨g',es,c,P,m,B⟩:=A f.gA;exact .inl (Q1 o (λb e=>e.elim) c m B f.gA Y1 n u (.fin trivial hq))|aq hT hd g' c hx=>exact .inr ⟨⟨hT,hd,g',c,hx⟩,rfl⟩|fin mi iR hT hd hg=>rw[hT]at n;cases n
def W6{s:Nat}{St:Nat->Prop}(d:Nat):fF ph s St w (w.at d):=⟨ao _,λ_ _=>rfl,id,id,λc h=>⟨c,h,rfl⟩⟩
def RI.at(c:∀s W R w i,s<2->fF ph s (λb=>W b\/R b) w i->F s W R w->F s W R i)(h:RI ph F cF csF W0 dead n1 R0 wg fH x rc bm j Z q gs w t)(d:Nat):RI ph F cF csF W0 dead n1 R0 wg fH x rc bm j Z q gs (w.at d) t:=by
 have f:=I4 h.jT;refine⟨h.main,h.bmo,Pg (x:={x with w:=w}) h.beh ⟨W6 d,λ_=>rfl⟩,h.deaf,h.kz,h.jT,h.lv,h.no,h.yes,h.kd0,h.SX,λs y r k g z=>?_,λs g m=>?_,⟨h.mem.okp,h.mem.shl,h.mem.le,h.mem.wn,h.mem.wm,h.mem.rm,h.mem.wf,h.mem.rf,h.mem.mf,h.mem.ff⟩,h.xs,h.gh.at d,h.gl,h.ti,h.cb.at d,h.sz,λT=>?_⟩;.have⟨l,n,o,p⟩:=h.wk s y r k g z;exact⟨l,n,Xc (x:={y with w:=w}) o (W6 d),p⟩
 .have⟨u,v⟩:=h.rel s g m;exact⟨u,c s _ _ _ _ Y0 (W6 d) v⟩
 .obtain⟨mu,A,st,B,ρ,a,e⟩:=h.sy T;exact⟨mu,A,st,B,ρ,⟨a.mA,a.gA,a.md,a.tb,a.kk⟩,e⟩
def RI.I7(h:RI ph F cF csF W0 dead n1 R0 wg fH x rc bm j Z q gs w t)(r1:Rk){i:Nat}{g:av}(hi:i≠0)(hn:¬∃s,s<j/\i=fH s/\(Z s).oK)(Q:gs[i]?=C g)(hr:g.status=.running):∃m' ops gs' w' P x' z8 A j' f q',runT prog (crowd gs w sl) i=(.next m',ops)/\m'=crowd gs' w' sl/\gs.size<=gs'.size/\RI ph F cF csF W0 dead n1 R0 wg P x' z8 A j' f q' gs' w' (t++ops)/\Ms.lt (zK r1 z8 f (IN gs' q' A f)) (zK r1 rc Z (IN gs q bm Z)):=by
 have⟨d,h1,h2⟩:=h.lv i g hi hn Q;have⟨m,g',es,Q0,Q1,e3,e4⟩:=EO h1 hr;have Q2:=(ab.1 Q).1;have⟨A,fl,⟨m1,m2,_⟩,I⟩:=zif h (qY prog g g' w) H Y9;let f:Nat->jL:=λi=>lS (Z i) (fl i);have o:∀op∈cM i g.frame.fn g.frame.place es,op.g=i:=Go.ConcR.g_of_ofEvents;have G:∀op∈cM i g.frame.fn g.frame.place es,op.act.touch?=U/\∀a,op.act≠.mark (.release a):=λop oz=>by obtain⟨e,he,rfl⟩:=tq oz;exact yi (Q1 e he)
 have J:Mem ph W0 n1 x f w:=h.mem.zoF (ao _) (λi=>pT _ _) (λi=>pU _ _) (λb W=>W) λb W=>.inl W;have K:DZ f=DZ Z:=by funext i;simp[DZ,f,yA]
 have c:((gs.map (woken prog g g' w)).setIfInBounds i g').size=gs.size:=eY;have X:∀s y r bl,s<j->Z s=.live y r bl->fH s≠i:=λs y r bl hs hz e=>hn ⟨s,hs,e.symm,by rw[hz];trivial⟩;refine⟨_,_,_,w,fH,x,rc,A,j,f,upd q i m,gr (sl:=sl) Q (by rw[show(i==0)=H by simpa using hi];exact e3 w),rfl,cI c.symm,?_,.n rfl rfl (Jt _ _) (Jt _ _) ?_⟩
 .refine⟨?_,λe=>h.bmo (m2 e),h.beh,by rw[l1 t hi _ o];exact h.deaf,by rw[K];exact h.kz,h.jT,?_,λi hi=>by show lS (Z i) _=_;rw[h.no i hi];rfl,λi hi hn=>h.yes i hi ((Ju _ _).1 hn),λi hi=>by rw[c];exact h.kd0 i hi,h.SX,λs Q3 D bl hs B=>?_,λs hs hm=>?_,J,h.xs,h.gh,h.gl,?_,?_,h.sz,λhT=>?_⟩
  .rw[qV 0 (cA hi),h.main];exact congrArg C m1
  .have h5:vH prog ((gs.map (woken prog g g' w)).setIfInBounds i g') t (λk=>(∃s,s<j/\k=fH s/\(Z s).oK)\/k=i) q:=(h.lv.sub (λ_ z=>.inl z)).move (qY prog g g' w) (.inr (.inr rfl));refine(h5.app o (.inr (.inr rfl))).more (d:=cu d es) hi (λg1 L=>?_) λk R=>?_;.rw[eO Q2]at L;cases L;exact⟨e4,by rw[Deaf_own,h2]⟩
   .rcases R with⟨s',a1,a2,a3⟩|R;.exact .inl ⟨s',a1,a2,(vo _ _).2 a3⟩
    .exact .inr R
  .obtain⟨rfl,p,u⟩:=mo B;have⟨a1,a2,a3,a4,a5,a6⟩:=h.wk s Q3 D p hs u;have⟨b1,S,_⟩:=I s Q3 D p hs u;have M:=X s Q3 D p hs u;refine⟨?_,λe=>a2 (S e),a3,?_,a5,a6⟩;.rw[qV _ M,a1];exact congrArg C b1
   .rw[l1 t (cA M) _ o];exact a4
  .rw[show(f s).Dv=(Z s).Dv from yz _ _]at hm;have⟨⟨r2,c1⟩,c2⟩:=h.rel s hs hm;refine⟨⟨r2,c1.app λk R Q hI=>?_⟩,?_⟩
   .have⟨y,T,_⟩:=hI;have⟨op,ho,N⟩:=touch_of T;rcases dW ho with⟨hl,_⟩|⟨_,hu⟩;.omega
    .rw[(G op hu).1]at N;cases N
   .rw[show(f s).ws=(Z s).ws from pU _ _,show(f s).rs=(Z s).rs from pT _ _];exact c2
  .have Q0:WR ph j fH x f=WR ph j fH x Z:=by funext g l;simp[WR,f,pU]
   have Q1:RR j fH x f=RR j fH x Z:=by funext g l;simp[RR,f,pT]
   rw[Q0,Q1];exact h.ti.zqt o G
  .refine h.cb.step (ao _) (λ_ _=>rfl) (cI c.symm) (.refl _) rfl λop oz=>⟨by rw[o op oz,c];exact Q2,λy T=>by rw[(G op oz).1]at T;cases T⟩
  .obtain⟨mu,ms,st,sm,ρ,v,O⟩:=h.sy hT;refine⟨mu,ms,st,sm,ρ,⟨v.mA,v.gA,by rw[K];exact v.md,?_,λi Q3 D bl hi B hp=>?_⟩,⟨λe=>O.hm (m2 e),λi Q3 D hi B=>?_⟩⟩;.rw[show(f 0).fQ E=(Z 0).fQ E from tH _ _ _,show(f 1).fQ H=(Z 1).fQ H from tH _ _ _];exact v.tb
   .have⟨_,p,u⟩:=mo B;exact v.kk i Q3 D p hi u hp
   .have⟨Q4,p,u⟩:=mo B;have hb0:=(I i Q3 D p hi u).2.1 Q4.symm;subst hb0;exact O.hl i Q3 D hi u
 .show IN _ (upd q i m) A f<IN gs q bm Z;unfold IN;rw[c];have:=Xm Q2 Q0;have b1:zhD A<=1:=by cases A<;>simp[zhD]
  have S:∀z:jL,z.bit<=1:=λz=>by cases z with|live y r b=>cases b<;>simp[jL.bit]|_=>simp[jL.bit]
  have:=S (f 0);have:=S (f 1);omega
def RI.awake(h:RI ph F cF csF W0 dead n1 R0 wg fH x rc bm j Z q gs w t):∀g∈gs,Go.Conc.awake g:=by
 intro o B d;have⟨i,v⟩:=eA.1 B;have m:∀(b:Bool)(g:av),g.status=.running->(blk b g).status≠.sleeping d:=λb g p=>by rw[zcj p];split<;>simp
 by_cases n:i=0;.subst n;rw[h.main]at v;cases v;exact m _ _ h.zqZ
 .by_cases l:∃s,s<j/\i=fH s/\(Z s).oK
  .obtain⟨A,f,rfl,c⟩:=l
   cases z:Z A with|live y r k=>have⟨D,_,G,_,I,_⟩:=h.wk A y r k f z;rw[D]at v;cases v;exact m _ _ ((Cg G).1 I)|no=>rw[z]at c;cases c|gone a b=>rw[z]at c;cases c
  .have⟨u,f,_⟩:=h.lv i o n l v;rcases f.status with e|e<;>rw[e]<;>simp
def RI.zn0(h:RI ph F cF csF W0 dead n1 R0 wg fH x rc bm j Z q gs w t):∃(i:Nat)(g:av),gs[i]?=C g/\g.status=.running:=by cases bm with|false=>exact⟨0,x.g,h.main,h.zqZ⟩|true=>
 have hT:=(h.bmo rfl).1;have I:x.T≠.st:=Y7;obtain⟨mu,ms,st,sm,ρ,f,G⟩:=h.sy I;have hj:j=2:=by have:=h.jT;rw[hT]at this;exact this
 subst hj;have runs:∀{s y r},s<2->Z s=.live y r H->∃(i:Nat)(g:av),gs[i]?=C g/\g.status=.running:=λ{s y r}hs a=>by have⟨a1,_,a3,_,a4,_⟩:=h.wk s y r H hs a;exact⟨fH s,y.g,a1,(Cg a3).1 a4⟩
 have d:∀{s y r},s<2->Z s=.live y r E->y.T.pc=.s1/\vI y.T.pc=E/\mv (s==0) y.T ⟨mu,ms,KKi,0⟩=[]/\ms=0:=λ{s y r}hs a=>by
  have⟨R,k⟩:=G.hl s y r hs a;have S:=zi7 R k;refine⟨S,R,k,?_⟩;simp only[mv,S]at k;split at k;.assumption
  .cases k
 have m:=f.md;have J:=G.hm rfl;rw[hT]at m;subst J;generalize e:lQ H .w3=tag at m;have hex:∃s,s<2/\(DZ Z s).stage≠1/\(DZ Z s).stage≠0:=by
  generalize hv:(0:Int)=v0 at m
  cases m with|opn K _ _=>subst e;cases K|reg _ Q0 n=>
   have:cnt (DZ Z 0)+cnt (DZ Z 1)=Vc 2 (DZ Z):=by simp only[Vc,sumTo];omega
   by_cases c:cnt (DZ Z 0)=0
   .refine⟨1,Y0,?_⟩;have M:cnt (DZ Z 1)≠0:=Y0;simp only[cnt]at M;split at M<;>omega
   .refine⟨0,Y0,?_⟩;simp only[cnt]at c;split at c<;>omega|last L _ Q0 n M=>grind|sema _=>cases hv|fin K _=>subst e;cases K
 have⟨s,hs,N,O⟩:=hex;cases a:Z s with|no=>cases O (by simp[DZ,a];rfl)|gone A B=>cases N (by simp[DZ,a];rfl)|live y r bl=>cases bl with|false=>grind|true=>
   have⟨P,p2,p3,p4⟩:=d hs a;have Q:∃o,o<2/\o≠s/\(o==0)=!(s==0):=by
    have:s=0\/s=1:=Y0;rcases this with rfl|rfl;.exact⟨1,Y0,Y0,rfl⟩
    .simp_all
   have⟨o,ho,Q1,Q2⟩:=Q;have b:(Z s).fQ (s==0)=y.T:=by rw[a,AM,if_pos p2]
   have key:(Z o).fQ (o==0)=WU (o==0)->False:=λW=>by
    have n:=znf f.tb;simp[GS.ok3,p4]at n;have:s=0\/s=1:=Y0;rcases this with rfl|rfl
    .have:o=1:=Y0;subst this;have p:(Z 0).fQ E=y.T:=b;have u:(Z 1).fQ H=at_ .wr:=W;rw[p,u,P]at n;simp  at n
    .have:o=0:=Y0;subst this;have p:(Z 1).fQ H=y.T:=b;have u:(Z 0).fQ E=at_ .kd:=W;rw[p,u,P]at n;simp  at n
   cases z:Z o with|no=>cases h.yes o ho z|gone A B=>cases key (by rw[z];rfl)|live Q3 r2 k=>cases k with|false=>grind|true=>
     have⟨q1,q2,X,q4⟩:=d ho z;have Q4:(Z o).fQ (o==0)=Q3.T:=by rw[z,AM,if_pos q2]
     exfalso;have l:=f.tb.facts.live;have:s=0\/s=1:=Y0;rcases this with rfl|rfl
     .have:o=1:=Y0;subst this;have p:(Z 0).fQ E=y.T:=b;have u:(Z 1).fQ H=Q3.T:=Q4;have v:mv E y.T ⟨mu,ms,KKi,0⟩=[]:=p3;have Q5:mv H Q3.T ⟨mu,ms,KKi,0⟩=[]:=X;rw[p,u]at l;rcases l with D|D;.simp_all
      .apply D;simp only[GS.succs,v,Q5];simp
     .have:o=0:=Y0;subst this;have p:(Z 1).fQ H=y.T:=b;have u:(Z 0).fQ E=Q3.T:=Q4;have v:mv H y.T ⟨mu,ms,KKi,0⟩=[]:=p3;have Q5:mv E Q3.T ⟨mu,ms,KKi,0⟩=[]:=X;rw[p,u]at l;rcases l with D|D;.simp_all
      .apply D;simp only[GS.succs,v,Q5];simp
def RI.step(n:∀s W R w Q,s<2->fF ph s (λb=>W b\/R b) w Q->F s W R w->F s W R Q)(h:RI ph F cF csF W0 dead n1 R0 wg fH x rc bm j Z q gs w t)(G:Rk):(∃m D gs' w' c k x' z8 e o f l,stepT prog (crowd gs w sl)=(.next m,D)/\m=crowd gs' w' c/\gs.size<=gs'.size/\RI ph F cF csF W0 dead n1 R0 wg k x' z8 e o f l gs' w' (t++D)/\Ms.lt (zK G z8 f (IN gs' l e f)) (zK G rc Z (IN gs q bm Z)))\/(bm=H/\∃d c,stepT prog (crowd gs w sl)=runT prog (crowd gs (w.at d) c) 0/\RI ph F cF csF W0 dead n1 R0 wg fH x rc H j Z q gs (w.at d) t/\zbM ph F cF csF rc x (w.at d)):=by
 have⟨i,g,d,c,v,J,S⟩:=crowd_pick (P:=prog) (w:=w) (sl:=sl) h.awake h.zn0;have K:=h.at n d;rw[S];by_cases A:i=0
 .subst A;rcases K.zku n G v J with⟨m,D,gs',w',k,x',z8,e,o,f,l,I,L,M,N,O⟩|⟨I,rfl⟩;.exact .inl ⟨m,D,gs',w',c,k,x',z8,e,o,f,l,I,L,M,N,O⟩
  .grind
 .left;by_cases p:∃s,s<j/\i=fH s/\(Z s).oK
  .obtain⟨s,B,rfl,u⟩:=p;cases z:Z s with|live y r T=>have⟨m,D,gs',w',e,f,l,I,L,M,N,O⟩:=K.zdr n (sl:=c) G B z v J;grind|no=>rw[z]at u;cases u|gone a b=>rw[z]at u;cases u
  .have⟨m,D,gs',w',k,x',z8,e,o,f,l,I,L,M,N,O⟩:=K.I7 (sl:=c) G A p v J;grind
end
section
variable{N:al}{fA fB:ag}{w0:V}{R0:BR}{WSA WSB:Nat->Prop}{vA vB:Y}{W:V}
def zrz(hA:Gr N fA w0 R0 WSA vA W)(B:Gr N fB w0 R0 WSB vB W)(A:s7 w0)(hd:∀b,WSA b->¬WSB b)(I:∀b,(∃a l,R0 a b l)->¬WSA b/\¬WSB b):∃Z w v2 w1 X,Wh N fA w0 Z w/\Wh N fB w v2 w1/\VR X Z vA/\VR X v2 vB/\HR X w1 W/\R0.le X/\(∀a b l,X a b l->R0 a b l\/WSA b\/WSB b)/\∀a,a<w0.heap.size->w1.heap[a]?=w0.heap[a]?:=by
 have⟨Z,w,R,a1,a2,T,a4,a5,x,K⟩:=hA.ext w0 ⟨λ_ _ h=>h,A⟩;have⟨v2,w1,j,D,L,s,y,F,t,J⟩:=B.ext w ⟨λa o h=>(x a (ab.1 h).1).trans h,T.kinds⟩;have n:R.le λa b l=>R a b l\/j a b l:=λ_ _ _ h=>.inl h;have p:j.le λa b l=>R a b l\/j a b l:=λ_ _ _ h=>.inr h;have q:∀a,Fz w a->Fz w1 a:=λa G=>by have⟨c,e,f,g,i⟩:=G;exact⟨c,e,f,(t a (ab.1 g).1).trans g,i⟩
 have r:∀a P b Q l m,R a P l->R b Q m->(a=b->P=Q)/\(P=Q->a=b\/(Fz w1 a/\Fz w1 b)):=λa P b Q l m O S=>⟨(T.inj a P b Q l m O S).1,λe=>((T.inj a P b Q l m O S).2 e).imp id λz=>⟨q _ z.1,q _ z.2⟩⟩;have d:∀a P b Q l m,R a P l->j b Q m->(a=b->P=Q)/\(P=Q->a=b\/(Fz w1 a/\Fz w1 b)):=λa P b Q l m O S=>by
  rcases y b Q m S with h|⟨g,i⟩;.exact r a P b Q l m O (a5 _ _ _ h)
  .rcases a4 a P l O with k|⟨k1,M⟩;.exact s.inj a P b Q l m (F _ _ _ k) S
   .have:=(T.lt O).1;exact⟨λe=>Y0,λe=>absurd (e▸i) (hd _ M)⟩
 refine⟨Z,w,v2,w1,λa b l=>R a b l\/j a b l,a1,D,a2.mono n,L.mono p,⟨λa P b Q l m O S=>?_,λa P l O=>?_,s.kinds⟩,λ_ _ _ h=>.inl (a5 _ _ _ h),λa b l O=>?_,λa ha=>(t a (aO ha K)).trans (x a ha)⟩
 .rcases O with O|O<;>rcases S with S|S;.exact r _ _ _ _ _ _ O S
  .exact d _ _ _ _ _ _ O S
  .have:=d _ _ _ _ _ _ S O;exact⟨λe=>(this.1 e.symm).symm,λe=>(this.2 e.symm).imp Eq.symm And.symm⟩
  .exact s.inj _ _ _ _ _ _ O S
 .rcases O with O|O
  .have⟨o,u,g,i,v⟩:=T.obj _ _ _ O;exact⟨o,u,(t a (T.lt O).1).trans g,i,v.mono n⟩
  .have⟨o,u,g,i,v⟩:=s.obj _ _ _ O;exact⟨o,u,g,i,v.mono p⟩
 .rcases O with O|O;.exact(a4 a b l O).imp id λh=>.inl h.2
  .exact(y a b l O).imp id λh=>.inr h.2
def zpl{R:BR}{v x y:Y}{cs:Array Y}(h:VR R v (.tuple #[.agg cs,x,y])):∃d j f,v=.tuple #[.agg d,j,f]/\AV R d cs:=by cases h with|@tuple z _ g k=>have i:z.size=3:=Y0;have⟨l⟩:=z;match l,i with|[a,b,c],_=>cases k 0 a (.agg cs) rfl rfl with|@agg d _ m e=>exact⟨d,b,c,rfl,⟨m,e⟩⟩
end
structure FA(N:al)(Fin:Y->V->Prop)(W0:V)(r1 rk:Rk)(ph:Ph)(F:Nat->(Nat->Prop)->(Nat->Prop)->V->Prop)(cF:ag)(csF:List ag)(dead:Nat->Prop)(x:Nm)(rc:Rk)(mi iR:Array Y)(q:Nat->Nat)(gs:Array av)(w:V)(t:nb)(fr:ag)(L:List ag)(wg:V)(R:BR):Prop where
 main:gs[0]?=C x.g
 T:x.T=.fin mi iR
 kz:x.k≠0
 beh:BhM prog ph F cF csF rc {x with w:=w}deaf:Deaf t 0=x.d
 lv:vH prog gs t (λ_=>False) q
 cb:CB W0 dead gs w t
 tree:wT N (Ask N) Fin rk fr L wg
 lt:Rk.lt rk r1
 f:u2 N R fr (cF.finish (.agg (mi++iR)))l:IJ N R L csF
 h:HR R wg w
 rn:∀a b l,R a b l->¬dead b/\(b<W0.heap.size->Fz wg a)/\¬x.WS b/\¬ph.sh b
 wm:∀b,x.WS b->¬dead b/\W0.heap.size<=b/\b<w.heap.size/\¬ph.sh b
 okp:ph.Ok
 bo:¬dead ph.Bo
 rs:x.RS=λb=>b=ph.Bo
 xs:∀b,¬x.XS b
 shd:∀b,b=ph.Mu\/b=ph.Wg->dead b
 sz:∀b,ph.sh b->b<w.heap.size/\W0.heap.size<=b
 ti:TI (ShL ph) (DdL dead) (λ_=>False) (Lh dead) onL t
 gf:GlF wg
section
variable{N:al}{Fin:Y->V->Prop}{W0:V}{r1 rk:Rk}{ph:Ph}{F:Nat->(Nat->Prop)->(Nat->Prop)->V->Prop}{cF:ag}{csF:List ag}{dead:Nat->Prop}{x:Nm}{rc:Rk}{mi iR:Array Y}{q:Nat->Nat}{gs:Array av}{w w':V}{t:nb}{fr:ag}{L:List ag}{wg:V}{R:BR}{sl:Option (Nat×Nat)}
def FA.at(h:FA N Fin W0 r1 rk ph F cF csF dead x rc mi iR q gs w t fr L wg R)(d:Nat):FA N Fin W0 r1 rk ph F cF csF dead x rc mi iR q gs (w.at d) t fr L wg R:=⟨h.main,h.T,h.kz,Pg (x:={x with w:=w}) h.beh ⟨W6 d,λ_=>rfl⟩,h.deaf,h.lv,h.cb.at d,h.tree,h.lt,h.f,h.l,h.h.at d,h.rn,h.wm,h.okp,h.bo,h.rs,h.xs,h.shd,h.sz,h.ti,h.gf⟩
def FA.zup(h:FA N Fin W0 r1 rk ph F cF csF dead x rc mi iR q gs w t fr L wg R)(e:x.d=0)(c:x.g=G (cF.finish (.agg (mi++iR))) csF):PA N Fin W0 rk q dead gs w t fr L wg (cF.finish (.agg (mi++iR))) csF R:=⟨⟨c▸h.main,rfl,h.deaf.trans e,h.lv,h.cb,h.ti.W5 (λ_ _ k=>.inl k) (λ_ _ k=>.inr (.inl k)) (λ_ k=>k.elim) (λ_ k=>k) (λ_ k=>k)⟩,h.tree,h.f,h.l,h.h,λa b l r=>⟨(h.rn a b l r).1,(h.rn a b l r).2.1⟩,h.gf⟩
def FA.zmt(h:FA N Fin W0 r1 rk ph F cF csF dead x rc mi iR q gs w t fr L wg R):zmm (ShL ph) (Lh dead) onL:=⟨λ_ _ _ h k=>h.1.trans k.1.symm,λ_ _ _ _ k=>k.elim,λ_ _ a⟨b,c,d⟩=>a.2 ⟨b,c,h.shd b d⟩,λ_ _ k=>k.elim⟩
def FA.free(h:FA N Fin W0 r1 rk ph F cF csF dead x rc mi iR q gs w t fr L wg R):∀o∈gs,o.status≠.blocked\/o.offers=U:=by
 intro o c;have⟨i,b⟩:=eA.1 c;by_cases e:i=0
 .subst e;rw[h.main]at b;cases b;exact .inl (by rw[(qR h.beh).1 h.kz];decide)
 .have⟨d,a,_⟩:=h.lv i o e id b;rcases a.status with e|e<;>simp_all
def FA.awake(h:FA N Fin W0 r1 rk ph F cF csF dead x rc mi iR q gs w t fr L wg R):∀g∈gs,Go.Conc.awake g:=by
 intro o f d;have⟨i,c⟩:=eA.1 f;by_cases e:i=0
 .subst e;rw[h.main]at c;cases c;rw[(qR h.beh).1 h.kz];simp
 .have⟨b,a,_⟩:=h.lv i o e id c;rcases a.status with e|e<;>rw[e]<;>simp
def FA.next(h:FA N Fin W0 r1 rk ph F cF csF dead x rc mi iR q gs w t fr L wg R):(x.d=0/\x.g=G (cF.finish (.agg (mi++iR))) csF)\/∃A ops Z w' x' z8,runT prog (crowd gs w sl) 0=(.next A,ops)/\A=crowd Z w' sl/\Z.size=gs.size/\Rk.lt z8 rc/\FA N Fin W0 r1 rk ph F cF csF dead x' z8 mi iR q Z w' (t++ops) fr L wg R:=by have z:=h.okp;have law:=(qR h.beh).2 w (IP.refl _);have X:=h.T;cases law with
 |deep I=>cases h.kz I|Ac vE g' w' es s J B=>
  right;have⟨K,S,B⟩:=B;have o:=Od s (ao _) z (λb m n=>(h.wm b n).2.2.2 m);have W:=(ab.1 h.main).1;have⟨f,M,_,fj⟩:=Ot (sl:=sl) h.main h.free s.mv;have nd:∀b,w.heap.size<=b->¬dead b:=λb j hd=>by have:=(h.cb.dlt b hd).1;omega
  have p:∀b,vE b->¬dead b/\W0.heap.size<=b/\b<w'.heap.size/\¬ph.sh b:=λb j=>by
   rcases(s.ws b).1 j with m|⟨m,n,O⟩
   .have⟨a1,a2,a3,a4⟩:=h.wm b m;exact⟨a1,a2,aO a3 o.size,a4⟩
   .exact⟨nd b m,bw h.cb.size m,n,O⟩
  have⟨o1,o2,o3⟩:=zi6 (w':=w') (g:=x.g) (Wx:=Lh dead) (Rx:=λg l=>Lh dead g l) s.ev s.acts (λl b m n=>⟨rfl,λ⟨b',k1,u⟩=>Y7⟩) (λl b m n=>⟨rfl,λ⟨b',k1,u⟩=>by rw[m]at k1;cases k1;rw[h.rs]at n;subst n;exact h.bo u⟩) (λl⟨a,m,n,_⟩=>⟨rfl,λ⟨b',k1,u⟩=>by subst m;cases k1;rw[n]at u;exact h.bo u⟩) (λe wR b j=>by
    rcases j with j|j|j;.simp_all
    .rw[h.rs]at j;subst j;exact aO (h.sz _ (.inr (.inr rfl))).1 o.size
    .exact aO (h.sz b j).1 o.size);have D:∀op∈jQ 0 x.g es [],OkT (ShL ph) (Lh dead) onL 0 op:=λop oz=>by
   have⟨a1,a2,a3⟩:=o2 op oz;refine⟨a1,a2,λy P=>?_⟩;rcases a3 y P with k|k|k;.exact .inl k
   .simp_all
   .simp_all
  refine⟨_,_,_,w',{x with WS:=vE,g:=g',w:=w',d:=cu x.d es},K,fj,rfl,eY,S,eO W,X,h.kz,B,by rw[GG s.acts,h.deaf],(h.lv.move M (.inl rfl)).app o1 (.inl rfl),?_,h.tree,h.lt,h.f,h.l,?_,λa b l r=>?_,p,z,h.bo,h.rs,h.xs,h.shd,λb j=>⟨aO (h.sz b j).1 o.size,(h.sz b j).2⟩,h.ti.app h.zmt (.inl rfl) D,h.gf⟩
  .refine h.cb.step o.size (λb j=>?_) (cI eY.symm) o.os o.output λop oz=>⟨Y7,o3 op oz⟩;exact o.blk b (aO j h.cb.size) (λk=>by have:=(h.wm b k).2.1;omega) λk=>by have:=(h.sz b k).2;omega
  .refine h.h.right λa b l r=>?_;have⟨_,_,a3,a4⟩:=h.rn a b l r;exact o.blk b (h.h.lt r).2 a3 a4
  .have⟨a1,a2,a3,a4⟩:=h.rn a b l r;refine⟨a1,a2,λk=>?_,a4⟩;rcases(s.ws b).1 k with k|⟨k,_⟩;.exact a3 k
   .have:=(h.h.lt r).2;omega|fin zz zC c hd Q=>left;rw[X]at c;cases c;simp_all|est c=>rw[X]at c;cases c|ad i c=>rw[X]at c;cases c|go i c=>rw[X]at c;cases c|w1 c=>rw[X]at c;cases c|w2 v c=>rw[X]at c;cases c|w3 c=>rw[X]at c;cases c|w4 c=>rw[X]at c;cases c|aq c=>rw[X]at c;cases c
def FA.I7(h:FA N Fin W0 r1 rk ph F cF csF dead x rc mi iR q gs w t fr L wg R){i:Nat}{g:av}(O:i≠0)(r:gs[i]?=C g)(X:g.status=.running):∃u P M v,runT prog (crowd gs w sl) i=(.next u,P)/\u=crowd M w sl/\M.size=gs.size/\FA N Fin W0 r1 rk ph F cF csF dead x rc mi iR v M w (t++P) fr L wg R/\left gs.size v<left gs.size q:=by
 have⟨d,A,B⟩:=h.lv i g O id r;have⟨m,S,W,n,D,J,G⟩:=EO A X;have b:=(ab.1 r).1;have c:=qY prog g S w;have o:∀op∈cM i g.frame.fn g.frame.place W,op.g=i:=Go.ConcR.g_of_ofEvents;have k:∀op∈cM i g.frame.fn g.frame.place W,op.act.touch?=U/\∀a,op.act≠.mark (.release a):=λop Q=>by obtain⟨e,K,rfl⟩:=tq Q;exact yi (D e K)
 have s:woken prog g S w x.g=x.g:=by
  rcases c x.g with e|e;.exact e
  .rw[e];exact vW _ (.inl ((qR h.beh).1 h.kz))
 refine⟨_,_,_,upd q i m,gr (sl:=sl) r (by rw[show(i==0)=H by simpa using O];exact J w),rfl,eY,⟨?_,h.T,h.kz,h.beh,?_,?_,?_,h.tree,h.lt,h.f,h.l,h.h,h.rn,h.wm,h.okp,h.bo,h.rs,h.xs,h.shd,h.sz,h.ti.zqt o k,h.gf⟩,by have:=Xm b n;omega⟩
 .rw[qV 0 (cA O),h.main];simp_all
 .rw[l1 t O _ o];exact h.deaf
 .have I:vH prog ((gs.map (woken prog g S w)).setIfInBounds i S) t (λj=>j=i) q:=(h.lv.sub (λ_ x=>x.elim)).move c (.inr rfl);refine(I.app o (.inr rfl)).more (d:=cu d W) O (λg1 p=>?_) (λj Z=>.inr Z);rw[eO b]at p;cases p;exact⟨G,by rw[Deaf_own,B]⟩
 .refine h.cb.step (ao _) (λ_ _=>rfl) (cI eY.symm) (.refl _) rfl λop Q=>⟨Y7,λy z=>Y7⟩
end
def zoo(N:al)(fr:ag)(w:V)(mi iR:Array Y)(f:ag)(w1:V):Prop:=∃T d D9 e y a c x b,Wh N (dsF N mi) (World.on w T d) (.tuple #[.agg D9,e,y]) a/\Wh N (dsF N iR) a (.tuple #[.agg c,x,b]) w1/\D9.size=22/\c.size=22/\f=fr.finish (.agg (D9++c))
structure Cx(N:al)(Fin:Y->V->Prop)(W0:V)(r1:Rk)(ph:Ph)(cF:ag)(csF:List ag)(dead:Nat->Prop)(n1:Nat)(R0:BR)(wg:V)(fr:ag)(L:List ag)(mi iR:Array Y):Prop where
 d22:ph.d=22
 f:u2 N R0 fr cF
 l:IJ N R0 L csF
 rn:∀a b l,R0 a b l->¬dead b/\(b<W0.heap.size->Fz wg a)dd:∀b,dead b->b<n1
 nx:∀fr1 w1,zoo N fr wg mi iR fr1 w1->ou N ⟨fr1,L,w1⟩->∃rk,Rk.lt rk r1/\wT N (Ask N) Fin rk fr1 L w1
 gf:GlF wg
def zj9{ph:Ph}{cs:Array Y}(h:cs.size=2*ph.d):zF ph 0 cs++zF ph 1 cs=cs:=by apply iF;unfold zF;simp only[fE,df,cf,Nat.zero_mul,vi,ew,jY,oW];rw[show ph.d+ph.d-ph.d=ph.d by omega,aM (l:=List.drop _ _) (by simp;omega),List.take_append_drop]
def zuw{ph:Ph}{w:V}{cs c:Array Y}(h:zx ph w cs)(k:zx ph w c):c=cs:=by have:=h.1.symm.trans k.1;simp only[ay,Obj.cells.injEq]at this;simp_all
def zdc{z:jL}(h:z.stage=1):∃A B,z=.gone A B:=by cases z with|no=>cases h|gone A B=>simp_all|live y r b=>simp[jL.stage]at h;split at h<;>cases h
section
variable{N:al}{Fin:Y->V->Prop}{W0:V}{r1 rk:Rk}{ph:Ph}{cF:ag}{csF:List ag}{dead:Nat->Prop}{n1:Nat}{R0:BR}{wg:V}{fH:Nat->Nat}{x:Nm}{rc:Rk}{mi iR:Array Y}{j:Nat}{Z:Nat->jL}{q:Nat->Nat}{gs:Array av}{w w':V}{t:nb}{fr:ag}{L:List ag}{sl:Option (Nat×Nat)}
def RI.zqQ(c:Cx N Fin W0 r1 ph cF csF dead n1 R0 wg fr L mi iR)(h:RI ph (F2 N wg R0 ph mi iR) cF csF W0 dead n1 R0 wg fH x rc H j Z q gs w t)(ha:zbM ph (F2 N wg R0 ph mi iR) cF csF rc x w):∃m' ops gs' x' z8 IM D9 rk cm wN R',runT prog (crowd gs w sl) 0=(.next m',ops)/\m'=crowd gs' w sl/\gs'.size=gs.size/\Rk.lt z8 rc/\FA N Fin W0 r1 rk ph (F2 N wg R0 ph mi iR) cF csF (Dt ph dead) x' z8 IM D9 q gs' w (t++ops) cm L wN R':=by
 have⟨hT,hd,g',P,hx⟩:=ha;have v:x.T≠.st:=by rw[hT];simp
 have hj:j=2:=by have:=h.jT;rw[hT]at this;exact this
 subst hj;obtain⟨mu,ms,st,sm,ρ,Q0,_⟩:=h.sy v;have⟨hq,_,_⟩:=Q0.md.fin_inv (by rw[hT];trivial);have z:=λs hs=>zdc (hq s hs);have Q1:=λs hs=>h.rel s hs (by have⟨A,B,e⟩:=z s hs;rw[e];rfl);have⟨IM,xO,yO,GA,a1,a2,a3,⟨a4,W⟩,cs,a5,a6⟩:=(Q1 0 Y0).2;have⟨D9,xP,yP,GB,X,b2,b3,⟨b4,Q2⟩,cs',b5,b6⟩:=(Q1 1 Y0).2;obtain rfl:=zuw a5 b5;have hcs:IM++D9=cs':=by rw[<-a6,<-b6];exact zj9 a5.2
 have m:=h.mem;have D:=m.okp;have⟨v1,wA,v2,w1,R',p1,p2,p3,p4,p5,p6,p7,p8⟩:=zrz a3 b3 h.gh.kinds (λb k1 p=>absurd (m.ff 0 1 b (a1 b k1) (X b p)) Y5) (λb⟨a,l,r⟩=>by have hl:=h.gl a b l r;exact⟨λk=>by have:=(m.wf 0 b (a1 b k)).1;omega,λk=>by have:=(m.wf 1 b (X b k)).1;omega⟩);obtain⟨Q3,x1,y1,rfl,q1⟩:=zpl p3;obtain⟨F,x2,y2,rfl,q2⟩:=zpl p4;have⟨z8,hlt,hB⟩:=hx IM D9 (by rw[c.d22];exact a4) (by rw[c.d22];exact b4) (by rw[Array.all_append,W,Q2];rfl) (by rw[hcs];exact a5);have J:zoo N fr wg mi iR (fr.finish (.agg (Q3++F))) w1:=⟨wg.tape,wg.drawn,Q3,x1,y1,wA,F,x2,y2,p1,p2,q1.size.trans a4,q2.size.trans b4,rfl⟩;have K:=(c.f.mono p6).finish (by have:=q1.app q2;exact .agg this.size this.at_);have gf:GlF w1:=λg S=>by have⟨c1,e1,f1,g1,g2⟩:=c.gf g S;exact⟨c1,e1,f1,(p8 g (ab.1 g1).1).trans g1,g2⟩
 have⟨rk,hrk,G⟩:=c.nx _ _ J ⟨R',_,csF,w,K,c.l.mono p6,p5,gf⟩;have S:gs[0]?=C x.g:=h.main;have h0:=(ab.1 S).1;have fj:=gr (sl:=sl) S P;have M:cM 0 x.g.frame.fn x.g.frame.place #[Go.ConcR.mk (.acquire (stA ph.Wg))]=#[{g:=0,fn:=x.g.frame.fn,pos:=x.g.frame.place,act:=.mark (.acquire (stA ph.Wg))}]:=by rw[ofEvents_eq];simp[aI,Go.ConcR.mk]
 have O:Deaf (t++cM 0 x.g.frame.fn x.g.frame.place #[Go.ConcR.mk (.acquire (stA ph.Wg))]) 0=x.d:=by rw[Deaf_own,h.deaf,hd];rfl
 rw[M]at fj O;have Q:∀i,¬∃s,s<2/\i=fH s/\(Z s).oK:=λi⟨s,k1,_,k3⟩=>by have⟨A,B,e⟩:=z s k1;rw[e]at k3;exact k3
 have hlv:vH prog ((gs.map (woken prog x.g g' w)).setIfInBounds 0 g') t (λ_=>False) q:=λi g k1 p k3=>h.lv.move (qY prog x.g g' w) (.inl rfl) i g k1 (Q i) k3;have R:∀b,n1<=b->¬ph.sh b->¬Dt ph dead b:=λb k1 p k3=>by
  rcases k3 with k3|k3|k3;.have:=c.dd b k3;omega
  .exact p (.inl k3)
  .exact p (.inr (.inl k3))
 have Q4:=m.wn;have o:=h.cb.step (u:=#[{g:=0,fn:=x.g.frame.fn,pos:=x.g.frame.place,act:=.mark (.acquire (stA ph.Wg))}]) (gs':=(gs.map (woken prog x.g g' w)).setIfInBounds 0 g') (ao _) (λ_ _=>rfl) (cI eY.symm) (.refl _) rfl λop oz=>by simp[ez,bq,cV,or_false]at oz;subst oz;exact⟨by rw[eY];exact h0,λy hy=>by cases hy⟩
 refine⟨_,_,_,{x with T:=.fin IM D9,RS:=λb=>b=ph.Bo,g:=g',w:=w},z8,IM,D9,rk,_,w1,R',fj,rfl,eY,hlt,eO h0,rfl,WV h.kz,hB,O,hlv.app (λop oz=>?_) (.inl rfl),⟨o.old,o.size,o.bnd,λb n=>?_,o.ids,o.os,o.output⟩,G,hrk,K,c.l.mono p6,p5,λa b l r=>?_,λb n=>?_,D,λn=>?_,rfl,λb n=>v (h.xs b n).1,λb n=>.inr n,λb n=>⟨h.sz v b n,bw Q4 (m.shl b n)⟩,?_,gf⟩
 .simp[ez,bq,cV,or_false]at oz;subst oz;rfl
 .rcases n with n|n|n;.exact o.dlt b n
  .exact⟨h.sz v b (.inl n),bw Q4 (m.shl b (.inl n))⟩
  .exact⟨h.sz v b (.inr (.inl n)),bw Q4 (m.shl b (.inr (.inl n)))⟩
 .have new:∀s,(Z s).ws b->¬Dt ph dead b/\(b<W0.heap.size->Fz w1 a)/\¬x.WS b/\¬ph.sh b:=λs k=>by have⟨k1,p,k3⟩:=m.wf s b k;exact⟨R b k1 k3,λn=>Y0,λn=>m.mf s b n k,k3⟩
  rcases p7 a b l r with k|k|k
  .have n:=h.gl a b l k;have⟨k1,p⟩:=c.rn a b l k;have I:¬ph.sh b:=λe=>by have:=m.shl b e;omega
   refine⟨λe=>?_,λe=>?_,λe=>by have:=(m.wm b e).1;omega,I⟩
   .rcases e with e|e|e;.exact k1 e
    .exact I (.inl e)
    .exact I (.inr (.inl e))
   .have⟨c1,e1,f1,g1,g2⟩:=p e;exact⟨c1,e1,f1,(p8 a (h.gh.lt k).1).trans g1,g2⟩
  .exact new 0 (a1 b k)
  .exact new 1 (X b k)
 .have⟨k1,p,k3⟩:=m.wm b n;exact⟨R b k1 k3,Y0,p,k3⟩
 .have hbs:=m.shl ph.Bo (.inr (.inr rfl));rcases n with n|n|n;.have:=c.dd _ n;omega
  .exact D.mb n.symm
  .exact D.wb n.symm
 .exact h.ti.zqQ ⟨rfl,rfl⟩ (h.deaf.trans hd) (λk⟨s,k1,p⟩=>by rw[p];exact(Q1 s k1).1) (λg l k=>k) (λg l k=>k.elim) (λl k=>k) (λl k=>k)
end
def zuD{fr:ag}(h:fr.mode=.run)(a:fr.roundOf=U):fr.at ⟨fr.tmps,fr.defers⟩ fr.todo=fr:=by cases fr;simp  at h a;subst h a;rfl
def Zv{R:BR}{a b c:Array Y}(h:AV R (a++b) c)(l:a.size=22)(f:b.size=22):∃g j,c=g++j/\AV R a g/\AV R b j/\g.size=22/\j.size=22:=by
 have s:c.size=44:=by rw[<-h.size];simp[l,f]
 refine⟨c.extract 0 22,c.extract 22 44,?_,⟨Y7,λi v k d e=>?_⟩,⟨by simp[f,s],λi v k d e=>?_⟩,by simp[s],by simp[s]⟩;.grind
 .have m:i<22:=Y8;apply h.at_ i v k;.grind
  .grind
 .have m:i<22:=Y8;apply h.at_ (22+i) v k;.grind
  .grind
def zec{R:BR}{a b:Array Y}(h:AV R a b)(c:a.all nF=E):b.all nF=E:=by
 rw[aQ]at c⊢;intro u d;have⟨i,e⟩:=eA.1 d;have l:i<a.size:=by rw[h.size];grind
 rw[ze9 (h.at_ i a[i] u (cB l) e)];simp_all
section
variable{N:al}{Fin:Y->V->Prop}{W0:V}{rk r1:Rk}{q:Nat->Nat}{dead:Nat->Prop}{gs:Array av}{w w':V}{t u:nb}{fr:ag}{L:List ag}{wg:V}{cm:ag}{L':List ag}{R:BR}{sl:Option (Nat×Nat)}
def PA.ask(g:PG N prog)(gp:GP N)(hf:∃fn,N.funcs[128]?=C fn/\fn.body.isSome=E)(h:PA N Fin W0 rk q dead gs w t fr L wg cm L' R){S:ag->List ag->V->Prop}(ha:zdJ N fr L wg S)(P:∀fr1 L1 w1,S fr1 L1 w1->ou N ⟨fr1,L1,w1⟩->∃rk,Rk.lt rk r1/\wT N (Ask N) Fin rk fr1 L1 w1):∃Z ops gs' x rc mi iR,runT prog (crowd gs w sl) 0=(.next Z,ops)/\Z=crowd gs' w sl/\Cx N Fin W0 r1 (c8 w.heap.size) cm L' dead w.heap.size R wg fr L mi iR/\RI (c8 w.heap.size) (F2 N wg R (c8 w.heap.size) mi iR) cm L' W0 dead w.heap.size R wg (λ_=>0) x rc H 0 (λ_=>.no) q gs' w (t++ops):=by
 have⟨b,a,m,i,rest,kk,o,x,SJ,mi,iR,v,h2,h3,h4,h5,h6,⟨h7,h8,h9,F⟩,W,I,J,K,M⟩:=ha;have O:cm.mode=.run:=by rw[h.f.mode,v];rfl
 have A:cm.todo=.inRegion m (i::rest)::kk:=by rw[h.f.todo,v];rfl
 have n:=zuD O h.f.lT;rw[A]at n;have hv:=h.f.eval h5;rw[v,kV,h6]at hv;have⟨cs',B,Q⟩:∃cs',cm.eval x=.agg cs'/\AV R (mi++iR) cs':=by generalize cm.eval x=u at hv;cases hv with|agg hc T=>exact⟨_,rfl,⟨hc,T⟩⟩
 obtain⟨zz,zC,rfl,hA,hB,Q0,Q1⟩:=Zv Q h7 h8;have X:ar o (yielded m cm.tmps)=E:=by rw[h.f.tmps.yielded m,v];exact h3
 have p:=pV (main:=E) (a:=⟨cm.tmps,cm.defers⟩) (rest:=rest) (kk:=kk) (cs:=L') (w:=w) h2 X (by rw[h.f.pE];simp) h4 func104 rfl rfl;rw[n]at p;have Q2:#[x].map (a8 ⟨cm.tmps,cm.defers⟩)=#[.agg (zz++zC)]:=by
  have e1:a8 ⟨cm.tmps,cm.defers⟩ x=.agg (zz++zC):=by rw[<-B,<-kV cm ⟨cm.tmps,cm.defers⟩ cm.todo,A,n]
  rw[<-e1];simp
 rw[Q2]at p;have fj:=gr (sl:=sl) h.b.main p;rw[qL]at fj;have⟨rc,D⟩:=za7 (cF:=cm) (csF:=L') g gp hf J K h.h hA hB W I (λg hg=>⟨h.f.gl g hg,let⟨c,e,f,z,_⟩:=h.gf g hg;⟨c,e,f,z⟩⟩) Q0 Q1 (zec hA h9) (zec hB F) 5;have Q3:=qY prog (G cm L') (G (aF prog 104 #[.agg (zz++zC)] .normal) (cm::L')) w;have new:∀{l:Loc}{b:Nat},s5 l=C b->w.heap.size<=b->∀i y,qA t i=C y->y.loc≠l:=λv h2 i y hy e=>by have:=h.b.cb.bnd i y hy _ (e▸v);omega
 refine⟨_,_,_,⟨.st,5,0,λ_=>False,λb=>∃a l,R a b l,(c8 w.heap.size).sh,G (aF prog 104 #[.agg (zz++zC)] .normal) (cm::L'),w⟩,rc,mi,iR,fj,rfl,⟨rfl,h.f,h.l,h.rn,λb d=>(h.b.cb.dlt b d).1,λfr1 w1 hs hr=>P fr1 L w1 (by rw[M];exact⟨rfl,hs⟩) hr,h.gf⟩,eO ((ab.1 h.b.main).1),Y9,D,by rw[gg];exact h.b.deaf,show 3<=5 by omega,rfl,?_,λ_ _=>rfl,λs hs=>absurd hs Y0,λs hs=>absurd hs Y0,λs s' hs=>absurd hs Y0,λs y r bl hs=>absurd hs Y0,λs hs=>absurd hs Y0,⟨Cj _,λb d=>by have:=Ez.1 d;omega,ao _,h.b.cb.size,λb d=>d.elim,λb⟨a,l,r⟩=>(h.h.lt r).2,λs b d=>d.elim,λs b d=>d.elim,λs b d=>d.elim,λs s' b d=>d.elim⟩,λb d=>⟨rfl,d⟩,h.h,λa b l r=>(h.h.lt r).2,?_,?_,λe=>absurd rfl e,λe=>absurd rfl e⟩
 .rw[gg];exact(h.b.lv.move Q3 (.inl rfl)).sub λi k=>k.elim
 .rw[gg];refine h.b.ti.W5 (λg l hw=>?_) (λg l hr=>?_) (λl⟨b,k1,j⟩=>.inr (new k1 ?_)) (λl⟨b,k1,j⟩=>⟨b,k1,.inl j⟩) (λk P=>P.elim)
  .rcases hw with⟨rfl,⟨b,k1,j⟩|⟨a,k1,j,_⟩⟩|⟨s,hs,_⟩;.cases j
   .refine .inr (new (by rw[k1];rfl) ?_);rw[j];show _<=w.heap.size+4;omega
   .omega
  .rcases hr with⟨rfl,b,k1,a,l',j⟩|⟨s,hs,_⟩
   .refine .inl ⟨rfl,λ⟨b',k3,k4⟩=>?_⟩;rw[k1]at k3;cases k3;exact(h.rn a b l' j).1 k4
   .omega
  .have:ShL (c8 w.heap.size) l:=⟨b,k1,j⟩;have:=Ez.1 (show(c8 w.heap.size).sh b from j.elim .inl λe=>.inr (.inl e));omega
 .rw[gg];exact⟨h.b.cb.old,h.b.cb.size,h.b.cb.bnd,h.b.cb.dlt,λi op hi=>by rw[eY];exact h.b.cb.ids i op hi,h.b.cb.os,h.b.cb.output⟩
end
end Rn
end Go.Proofs.YtelohkknmgaacaaGreatDoor
