/-
  The lone walks (part 12). No condition.
-/
import Derived.Test.YtdpfknhenjngcaaGreatDoorZ11
import Derived.Test.YtdpfknhenjngcaaGreatDoorZ10
import Derived.Conc.LoneCalls
import Derived.Test.YtdpfknhenjngcaaGreatDoorZ9
set_option linter.unusedSimpArgs false
set_option linter.unusedVariables false
set_option linter.unusedSectionVars false
set_option maxRecDepth 100000
set_option maxHeartbeats 2000000
open Array renaming getElem?_eq_some_iff→ah,toList_inj→bk,replicate→cU,getElem?_setIfInBounds_ne→bt,getD_eq_getD_getElem?→bS,getD→qQ,getElem?_extract→qm
open BitVec renaming ofInt→aZ
open Bool renaming and_eq_true→aE,or_false→zHT,false_or→wJ,true_and→zHU
open Go renaming World→ai,Calls→fV,Value→aj,bodyPost_ret→dW,Program→aG,Code→gZ,Frame→aB,Oper→di,execOp→bd,step_lone_go→fR,stepG.apply→dR,Deferred→eH,TypeId→au,Func→fI,FuncId→ck,Frame.enter→aU
open Go.Act renaming eval→bX,put→rq
open Go.Calls renaming mono→cR
open Go.Ending renaming returned→oP
open Go.Frame renaming finish_at→eN
open Go.IntKind renaming i64→aL
open Go.Proofs.Tryz renaming ntmps79→zq,results79→uy
open Go.Region renaming wanted→aR
open Go.RowKit renaming Below→cE
open Go.RowKit.Below renaming refl→bO,alloc→eL,setCell→dB,drew→fZ
open Go.RowKit.Hid renaming out→dU
open Go.Value renaming slice→dj,int→eE,agg→tr,ownBlock→qf
open Go.Value.slice renaming injEq→b9
open Int renaming toNat→dT,emod_nonneg→jq,toNat_natCast→je
open List renaming take_of_length_le→bq,drop_eq_getElem_cons→iz,getD_eq_getElem?_getD→dq,drop_eq_nil_of_le→eZ,append_nil→eO,range→oY,getElem?_eq_some_iff→aO,getElem?_set_ne→cd,getElem?_eq_getElem→aW,range'→Bf,range'_succ→qV,cons_append→jR,drop_drop→lD,take_append_drop→dH,length_drop→iF,length_take→dm,getD_cons_succ→Db,length_set→zNC,replicate→aX,replicate_succ→sV,take_add_one→dO,append_assoc→dN
open Nat renaming zero_le→bw,ble→hY,le_refl→aA,eq_of_beq_eq_true→bf,sub_self→Hv
open Option.some renaming injEq→aF
open Prod.mk renaming injEq→bz
open Bool renaming true→ae,false→aa
open Option renaming some→ab,none→ak
namespace Go.Proofs.YtdpfknhenjngcaaGreatDoor
section
open Go.RowKit
open Ab
def Wp(x:iY)(a b c d:Nat):List LV:=[.v (.int .i64 x.p.f.bits),.v (.int .i64 x.p.f.par),.v (.int .i64 x.p.f.stop),.v (.int .i64 x.p.en),.v (.int .i64 x.p.co),
 .v (.int .i64 x.p.rc.room),.v (.int .i64 x.p.rc.mL),.s a 0,.v (.bool x.p.rc.lost),.v (.int .i64 x.p.rc.Sy),
 .v (.int .i64 x.p.sd.room),.s b 0,.v (.int .i64 x.p.sd.shift),.v (.int .i64 x.p.sd.left),
 .v (.bool x.p.md.c),.v (.bool x.p.md.h),.v (.bool x.p.md.cc),.v (.bool x.p.md.hc),.s c 0,.s d 0,.v (.int .i64 x.jW),.v (.int .i64 x.lost)]
variable{p:re}
theorem zho(h:eS p=ae):bM p 5=⟨wG p,iR p,ae⟩:=by simp[bM,h]
theorem zo8(h:eS p=ae):bM p 0=⟨zQ p,(eT p.rc).g.1,ae⟩:=by simp[bM,h]
theorem zvW(h:eS p=ae):bM p 6=⟨UO p,wF p.md,ae⟩:=by simp[bM,h]
theorem zcf(h:eS p=ae):eS (wG p)=ae:=by
 obtain⟨p1,p2,p3,p4,p5⟩:=dV h
 exact jz p1 p2 p3 (Hq p4) p5
def zbl(p1 p2:re)(x:iY)(b2 b48:Bool):iY:=⟨cond b48 p2 p1,x.tp,x.out,cond b48 (O5 x.jW) x.jW,cond b2 (O5 x.lost) x.lost⟩
variable{x:iY}
theorem ze5(h:eS x.p=ae){b2 b48:Bool}(h2:decide ((bM x.p 5).n/2 % 2=1)=b2)(h48:decide ((bM x.p 5).n/4 % 2=1\/(bM x.p 5).n/8 % 2=1)=b48):zbl (bM x.p 5).p (bM (bM x.p 5).p 0).p x b2 b48=JQ x:=by
 rw[zho h] at h2 h48 ⊢
 dsimp only at h2 h48 ⊢
 rw[zo8 (zcf h)]
 unfold zbl JQ
 subst h2 h48
 by_cases c2:iR x.p/2 % 2=1<;>by_cases c48:iR x.p/4 % 2=1\/iR x.p/8 % 2=1<;>simp[c2,c48]
def zbi(q:Pp)(x:iY)(b:Bool):iY:=⟨q.p,cond b (x.tp++[q.n]) x.tp,x.out,x.jW,cond b x.lost (O5 x.lost)⟩
theorem ze3(h:eS x.p=ae){b:Bool}(hb:decide (x.tp.length<32)=b):zbi (bM x.p 0) x b=JP x:=by
 rw[zo8 h]
 unfold zbi JP
 subst hb
 by_cases c:x.tp.length<32<;>simp[c]
structure VN where
 x:iY
 n:Nat
def VN.ok(s:VN)(d:iY):Prop:=jj s.x=ae/\smu s.x+s.n<=19/\dA 40 d=((dA (40-s.n) s.x).1,(dA (40-s.n) s.x).2+s.n)
theorem Zq{d:iY}(h:jj d=ae):VN.ok ⟨d,0⟩ d:=⟨h,by have:=zbm h;simp;omega,by simp⟩
variable{n:Nat}
theorem G2{y d:iY}(h:VN.ok ⟨x,n⟩ d)(hn:da x.p≠1)(e:y=rO x):VN.ok ⟨y,n+1⟩ d:=by
 subst e
 obtain⟨h1,h2,h3⟩:=h
 have hk:=Kd h1 hn
 have hm:=hk.mu
 dsimp only at h1 h2 h3 hm
 refine⟨hk.v,by dsimp only;omega,?_⟩
 dsimp only
 rw[h3,show 40-n=(40-(n+1))+1 by omega,zab hn]
 dsimp only
 rw[show ((n+1:Nat):Int)=1+(n:Int) by omega,Int.add_assoc]
theorem zdz{d:iY}(h:VN.ok ⟨x,n⟩ d)(hn:da x.p=1):dA 40 d=(x,(n:Int)):=by
 obtain⟨h1,h2,h3⟩:=h
 dsimp only at h3
 rw[h3,zac hn]
 simp
theorem zca(h:da x.p=6):rO x=JQ x:=by rw[rO,if_pos h]
theorem MP(h:da x.p=2):rO x=y5 x:=by rw[rO,if_neg (by omega),if_pos h]
theorem zah(h:da x.p=0):rO x=CH x:=by rw[rO,if_neg (by omega),if_neg (by omega),if_pos h]
theorem zb9(h6:da x.p≠6)(h2:da x.p≠2)(h0:da x.p≠0):rO x=JP x:=by rw[rO,if_neg h6,if_neg h2,if_neg h0]
def zdJ(q:Pp)(x:iY):iY:=⟨q.p,x.tp,x.out,x.jW,x.lost⟩
theorem zbZ(h:eS x.p=ae):zdJ (bM x.p 6) x=CH x:=by
 rw[zvW h]
 rfl
theorem Zp{d:iY}(hs:VN.ok ⟨x,n⟩ d)(e:da x.p=0):VN.ok ⟨zdJ (bM x.p 6) x,n+1⟩ d:=
 G2 hs (by omega) ((zbZ (fu hs.1).1).trans (zah e).symm)
theorem zdy{d:iY}(hs:VN.ok ⟨x,n⟩ d)(e:da x.p=6){b2 b4 b8:Bool}(h2:decide ((bM x.p 5).n/2 % 2=1)=b2)(h4:decide ((bM x.p 5).n/4 % 2=1)=b4)(h8:decide ((bM x.p 5).n/8 % 2=1)=b8):VN.ok ⟨zbl (bM x.p 5).p (bM (bM x.p 5).p 0).p x b2 (b4 || b8),n+1⟩ d:=
 G2 hs (by omega) ((ze5 (fu hs.1).1 h2 (by rw[Bool.decide_or,h4,h8])).trans (zca e).symm)
theorem OO{d:iY}(hs:VN.ok ⟨x,n⟩ d)(h6:da x.p≠6)(h2:da x.p≠2)(h0:da x.p≠0)(h1:da x.p≠1){b:Bool}(hb:decide (x.tp.length<32)=b):VN.ok ⟨zbi (bM x.p 0) x b,n+1⟩ d:=
 G2 hs h1 ((ze3 (fu hs.1).1 hb).trans (zb9 h6 h2 h0).symm)
def zdH(x:iY)(en:Int):iY:=⟨⟨x.p.f,en,x.p.co,x.p.rc,x.p.sd,x.p.md⟩,x.tp,[],x.jW,x.lost⟩
theorem Vf{d:iY}(hs:VN.ok ⟨x,n⟩ d)(e:da x.p=2)(ho:x.out=[]){en:Int}(he:en=x.p.en-2):VN.ok ⟨zdH x en,n+1⟩ d:=
 G2 hs (by omega) ((show zdH x en=y5 x by rw[y5,ho,he];rfl).trans (MP e).symm)
def G6(x:iY)(s:yz)(o:List Int):iY:=⟨⟨x.p.f,x.p.en,x.p.co,x.p.rc,s,x.p.md⟩,x.tp,o,x.jW,x.lost⟩
variable{s:yz}
theorem CQ{d:iY}(hs:VN.ok ⟨x,n⟩ d)(e:da x.p=2)(ho:x.out≠[]){o:List Int}(he:mi x.p.sd x.out=(s,o)):VN.ok ⟨G6 x s o,n+1⟩ d:=by
 refine G2 hs (by omega) (Eq.trans ?_ (MP e).symm)
 unfold y5
 cases hx:x.out with
 |nil=>exact absurd hx ho
 |cons b r=>
  rw[hx] at he
  dsimp only
  rw[he]
  rfl
def zd7(d:yz)(l:List Int)(s:yz×List Int):Prop:=mi s.1 s.2=mi d l/\lK s.1=ae/\ko s.2=ae/\s.2.length<=32
variable{l:List Int}{c:Int}
theorem PW{d:yz}{q:List Int}(h:zd7 d l (s,c::q))(hr:(s.items.length:Int)<s.room):zd7 d l (⟨s.room,s.items++[c],s.shift,s.left⟩,q):=by
 obtain⟨h1,h2,h3,h4⟩:=h
 have hb:=qK h3
 refine⟨?_,?_,hb.2,by simp at h4 ⊢;omega⟩
 ·rw[<-h1]
  dsimp only
  rw[mi.eq_2,if_pos hr]
 ·obtain⟨p1,p2,p3⟩:=kC h2
  have hf:kB s.room (s.items++[c])=ae:=by
   simp only[kB,aE,decide_eq_true_eq]
   refine⟨⟨⟨p1.2.2,p1.1⟩,by simp;omega⟩,G8.2 ⟨p2,by simp[ko,hb.1]⟩⟩
  simp only[lK,aE] at h2 ⊢
  exact⟨hf,h2.2⟩
variable{b:Int}
theorem Vh{d:yz}{r:List Int}(h:lK d=ae)(hi:d.items=[])(hl:ko (b::r)=ae)(hn:(b::r).length<=32):zd7 d (b::r) (⟨d.room,d.items++[b],d.shift,d.left⟩,r):=
 PW ⟨rfl,h,hl,hn⟩ (by have:=(kC h).1;rw[hi];simp;omega)
theorem OQ{d:yz}{q:List Int}(h:zd7 d l (s,q))(hq:q=[]\/¬(s.items.length:Int)<s.room):mi d l=(s,q):=by
 rw[<-h.1]
 cases q with
 |nil=>rfl
 |cons c q=>
  dsimp only
  rw[mi.eq_2,if_neg]
  rcases hq with hq|hq
  ·cases hq
  ·exact hq
theorem zpc:∀n:Fin 128,(!decide (aL.wrap (aZ aL.bits (n.val:Int) &&& aZ aL.bits 2).toNat=0))=decide ((n.val:Int)/2 % 2=1)/\(!decide (aL.wrap (aZ aL.bits (n.val:Int) &&& aZ aL.bits 12).toNat=0))=(decide ((n.val:Int)/4 % 2=1) || decide ((n.val:Int)/8 % 2=1)):=by decide +kernel
theorem zvy:∀n:Fin 16,(n.val:Int)/2 % 2=1->aL.wrap (aZ aL.bits (n.val:Int) &&& ~~~(aZ aL.bits 2)).toNat=(n.val:Int)-2:=by decide +kernel
theorem zvY{n:Int}(h:0<=n/\n<=127){b:Bool}(hb:decide (n/2 % 2=1)=b):(!decide (aL.wrap (aZ aL.bits n &&& aZ aL.bits 2).toNat=0))=b:=by
 obtain⟨q,rfl⟩:∃q:Fin 128,(q.val:Int)=n:=⟨⟨n.toNat,by omega⟩,by simp;omega⟩
 rw[<-hb]
 exact(zpc q).1
theorem zr5{n:Int}(h:0<=n/\n<=127){b c:Bool}(hb:decide (n/4 % 2=1)=b)(hc:decide (n/8 % 2=1)=c):(!decide (aL.wrap (aZ aL.bits n &&& aZ aL.bits 12).toNat=0))=(b || c):=by
 obtain⟨q,rfl⟩:∃q:Fin 128,(q.val:Int)=n:=⟨⟨n.toNat,by omega⟩,by simp;omega⟩
 rw[<-hb,<-hc]
 exact(zpc q).2
theorem zvx{n:Int}(h:0<=n/\n<=15)(hb:n/2 % 2=1):aL.wrap (aZ aL.bits n &&& ~~~(aZ aL.bits 2)).toNat=n-2:=by
 obtain⟨q,rfl⟩:∃q:Fin 16,(q.val:Int)=n:=⟨⟨n.toNat,by omega⟩,by simp;omega⟩
 exact zvy q hb
def Wr(x:iY)(a b c d i m:Nat):List LV:=[.v (.int .i64 x.p.f.bits),.v (.int .i64 x.p.f.par),.v (.int .i64 x.p.f.stop),.v (.int .i64 x.p.en),.v (.int .i64 x.p.co),
 .v (.int .i64 x.p.rc.room),.v (.int .i64 x.p.rc.mL),.s a 0,.v (.bool x.p.rc.lost),.v (.int .i64 x.p.rc.Sy),
 .v (.int .i64 x.p.sd.room),.s b 0,.v (.int .i64 x.p.sd.shift),.v (.int .i64 x.p.sd.left),
 .v (.bool x.p.md.c),.v (.bool x.p.md.h),.v (.bool x.p.md.cc),.v (.bool x.p.md.hc),.s c 0,.w d 0 1 i m,.v (.int .i64 x.jW),.v (.int .i64 x.lost)]
def zyK(d:iY)(s:VN×Nat):Prop:=s.1.ok d/\s.2<=d.out.length/\s.1.x.out=d.out.drop s.2
theorem zik{i:Nat}:(l.drop i).take (l.length-i)=l.drop i:=bq (by simp)
theorem U3{i:Nat}(h:i<l.length):l.drop i=l.getD i 0::l.drop (i+1):=by
 rw[iz h]
 simp[dq,h]
def Ej:Env:=[]
theorem KR:bg al.prog Ej:=aC trivial
def Bn:CS:=Jt jV Ej ja Tryz.f84
theorem BG:bW al.prog 84 Bn:=iy aS aH KR (Rn.fM Tryz.func84)
def vX:Env:=[(153,Hz)]
theorem Cf:bg al.prog vX:=aC ⟨M4,trivial⟩
def oS:CS:=Jt jV vX ja Tryz.f83
theorem pf:bW al.prog 83 oS:=iy aS aH Cf (Rn.fM Tryz.func83)
def qu:Env:=[(83,oS),(84,Bn)]
theorem vl:bg al.prog qu:=aC ⟨pf,BG,trivial⟩
def sw:CS:=Jt jV qu ja Tryz.f47
theorem yq:bW al.prog 47 sw:=iy aS aH vl (Rn.fM Tryz.func47)
def qs:Env:=[(83,oS),(84,Bn)]
theorem vk:bg al.prog qs:=aC ⟨pf,BG,trivial⟩
def su:CS:=Jt jV qs ja Tryz.f48
theorem yp:bW al.prog 48 su:=iy aS aH vk (Rn.fM Tryz.func48)
def pI:Env:=[(85,D6)]
theorem u4:bg al.prog pI:=aC ⟨Ki,trivial⟩
def zJ:Nat->Tr:=λ n=>match n with
 |3=>.op 0 0 (.op 1 0 (.op 2 0 (.op 3 0 (.op 4 0 (.op 5 0 (.op 6 0 (.op 7 0 (.op 8 0 (.op 9 0 (.fork 10 1 (.op 11 0 (.op 12 0 (.op 13 0 (.op 14 1 (.op 15 1 (.op 16 2 (.nil))))))) 14 1 (.op 10 1 (.op 11 1 (.op 12 0 (.op 13 0 (.op 15 1 (.op 16 2 (.nil)))))))))))))))))
 |_=>.nil
def qA:CS:=Jt jV pI zJ Tryz.f49
theorem wY:bW al.prog 49 qA:=iy aS aH u4 (Rn.fM Tryz.func49)
def pJ:Env:=[(83,oS)]
theorem u5:bg al.prog pJ:=aC ⟨pf,trivial⟩
def qB:CS:=Jt jV pJ ja Tryz.f50
theorem wZ:bW al.prog 50 qB:=iy aS aH u5 (Rn.fM Tryz.func50)
def IM:Env:=[(46,oR),(51,uC),(52,Bm),(47,sw),(48,su),(49,qA),(50,qB)]
theorem Cd:bg al.prog IM:=aC ⟨pd,vV,BC,yq,yp,wY,wZ,trivial⟩
def Ox:DA [oc]->(DV->Prop)->Prop:=λ⟨⟨fb,fq,fst,pe,pc,rr,rt,rl,ro,ra,sr,sl,ss,sf,mc,mh,cy,cz,qi,qo,cw,cl,_⟩,_⟩ K=>K (oy ⟨⟨⟨fb,fq,fst⟩,pe,pc,⟨rr,rt,rl,ro,ra⟩,⟨sr,sl,ss,sf⟩,⟨mc,mh,cy,cz⟩⟩,qi,qo,cw,cl⟩).d
theorem vW:ji al.prog 17 [oc] Ox:=by
 refine bh (TR:=ja) aS aH Cd (Rn.fM Tryz.func17) rfl ?_
 dsimp only[DA,HL,Sh.T]
 rintro⟨⟨fbZ,fqZ,Gp,peZ,pcZ,rrZ,rtZ,rlZ,roZ,raZ,srZ,slZ,ssZ,sfZ,mcZ,mhZ,Gy,Gz,qiZ,Cs,cwZ,clZ,_⟩,_⟩ K hK ⟨⟨-,-,-,-,-,-,-,h1,-,-,-,h2,-,-,-,-,-,-,h3,h4,-⟩,-⟩
 dsimp only[Ox] at hK
 replace h1:=gl rlZ h1
 replace h2:=gl slZ h2
 replace h3:=gl qiZ h3
 replace h4:=gl Cs h4
 cases hvZ:jj ⟨⟨⟨fbZ,fqZ,Gp⟩,peZ,pcZ,⟨rrZ,rtZ,rlZ,roZ,raZ⟩,⟨srZ,slZ,ssZ,sfZ⟩,⟨mcZ,mhZ,Gy,Gz⟩⟩,qiZ,Cs,cwZ,clZ⟩ with
 |false=>
  rw[show oy ⟨⟨⟨fbZ,fqZ,Gp⟩,peZ,pcZ,⟨rrZ,rtZ,rlZ,roZ,raZ⟩,⟨srZ,slZ,ssZ,sfZ⟩,⟨mcZ,mhZ,Gy,Gz⟩⟩,qiZ,Cs,cwZ,clZ⟩=⟨V3,0,aa⟩ by simp[oy,hvZ]] at hK
  exact gW
 |true=>
 rw[show oy ⟨⟨⟨fbZ,fqZ,Gp⟩,peZ,pcZ,⟨rrZ,rtZ,rlZ,roZ,raZ⟩,⟨srZ,slZ,ssZ,sfZ⟩,⟨mcZ,mhZ,Gy,Gz⟩⟩,qiZ,Cs,cwZ,clZ⟩=⟨(dA 40 ⟨⟨⟨fbZ,fqZ,Gp⟩,peZ,pcZ,⟨rrZ,rtZ,rlZ,roZ,raZ⟩,⟨srZ,slZ,ssZ,sfZ⟩,⟨mcZ,mhZ,Gy,Gz⟩⟩,qiZ,Cs,cwZ,clZ⟩).1,(dA 40 ⟨⟨⟨fbZ,fqZ,Gp⟩,peZ,pcZ,⟨rrZ,rtZ,rlZ,roZ,raZ⟩,⟨srZ,slZ,ssZ,sfZ⟩,⟨mcZ,mhZ,Gy,Gz⟩⟩,qiZ,Cs,cwZ,clZ⟩).2,ae⟩ by simp[oy,hvZ]] at hK
 repeat' (conv=>whnf);first|refine az.mk ?_ ?_;exact gS|(refine ao _ (aM (λ _ h=>h) (aM rfl ?_)))|refine End.mk ?_|apply gU;exact gA|refine gB ?_ ?_<;>intro hb h<;>try exact c8
 refine iK.inv {s:VN×Nat // zyK ⟨⟨⟨fbZ,fqZ,Gp⟩,peZ,pcZ,⟨rrZ,rtZ,rlZ,roZ,raZ⟩,⟨srZ,slZ,ssZ,sfZ⟩,⟨mcZ,mhZ,Gy,Gz⟩⟩,qiZ,Cs,cwZ,clZ⟩ s} (λ s=>[(15,.j),(17,.j),(7,.l (.v (.int .i64 (da s.1.1.x.p)))),(6,.l (.v (.int .i64 s.1.1.n)))]) (λ s=>[(0,.b (Wr s.1.1.x 3 4 5 6 s.1.2 (Cs.length-s.1.2)) 36),(3,.r 0 96 (.bK s.1.1.x.p.rc.items)),(4,.r 0 3 (.ints s.1.1.x.p.sd.items)),(5,.r 0 3 (.ints s.1.1.x.tp))]) (λ s=>40-s.1.1.n) ⟨(⟨⟨⟨⟨fbZ,fqZ,Gp⟩,peZ,pcZ,⟨rrZ,rtZ,rlZ,roZ,raZ⟩,⟨srZ,slZ,ssZ,sfZ⟩,⟨mcZ,mhZ,Gy,Gz⟩⟩,qiZ,Cs,cwZ,clZ⟩,0⟩,0),Zq hvZ,bw _,rfl⟩ [0,1,2,3,4,5,6] ?_ ?_
 ·repeat' first|refine az.mk ?_ ?_;exact gV|exact aV
 clear h1 h2 h3 h4
 rintro⟨⟨⟨⟨⟨⟨fb,fq,fst⟩,pe,pc,⟨rr,rt,rl,ro,ra⟩,⟨sr,sl,ss,sf⟩,⟨mc,mh,cy,cz⟩⟩,qi,qo,cw,cl⟩,n⟩,i⟩,hs,hi,ho⟩
 dsimp only at hi ho
 dsimp only[Wr]
 have hv:=hs.1
 have hm:=hs.2.1
 obtain⟨hp,hqi,hqo,hcw,X6⟩:=fu hv
 have hZ:=(fu hvZ).2.2.1.1
 have hl:=OP hp
 dsimp only at hp hqi hqo hcw X6 hl hm hZ
 have hn:n<=19:=by omega
 cases zbb hp with
 |none e _ _=>
  have d1:(!decide (da ⟨⟨fb,fq,fst⟩,pe,pc,⟨rr,rt,rl,ro,ra⟩,⟨sr,sl,ss,sf⟩,⟨mc,mh,cy,cz⟩⟩=1))=aa:=by simp[e]
  rw[zdz hs e] at hK
  have hd:=zik (l:=Cs) (i:=i)
  repeat' (conv=>whnf);first|refine az.mk ?_ ?_;exact gS|(refine ao _ (aM (λ _ h=>h) (aM rfl ?_)))|refine End.mk ?_|apply gU;exact gA|refine gB ?_ ?_<;>intro hb h<;>try exact c8
  (refine gI hK ?_;repeat' first|exact gR|refine az.mk ?_ ?_)
  all_goals (first|exact rfl|(simp[hd,ho];done))
 |zc3 e hx=>
  have d1:(!decide (da ⟨⟨fb,fq,fst⟩,pe,pc,⟨rr,rt,rl,ro,ra⟩,⟨sr,sl,ss,sf⟩,⟨mc,mh,cy,cz⟩⟩=1))=ae:=by simp[e]
  have hl6:=pq ⟨⟨fb,fq,fst⟩,pe,pc,⟨rr,rt,rl,ro,ra⟩,⟨sr,sl,ss,sf⟩,⟨mc,mh,cy,cz⟩⟩ 6
  dsimp only at hl6
  repeat' (conv=>whnf);first|refine az.mk ?_ ?_;exact gS|(refine ao _ (aM (λ _ h=>h) (aM rfl ?_)))|refine End.mk ?_|apply gU;exact gA|refine gB ?_ ?_<;>intro hb h<;>try exact c8
  (refine ao _ (ao _ (aM (λ _ h=>h) (aM (by rw[e];exact rfl) (aM rfl ?_)))))
  repeat' (conv=>whnf);first|refine az.mk ?_ ?_;exact gS|(refine ao _ (aM (λ _ h=>h) (aM rfl ?_)))|refine End.mk ?_|apply gU;exact gA|refine gB ?_ ?_<;>intro hb h<;>try exact c8
  have key:=Zp hs e
  dsimp only at key
  (refine ao ⟨(⟨_,_⟩,i),key,hi,ho⟩ (ao [0,1,2,7,8,5,6] (aM ?_ ?_)))
  ·show 40-(n+1)<40-n
   omega
  ·repeat' first|refine az.mk ?_ ?_;exact gV|exact aV
 |line e he hx=>
  have d1:(!decide (da ⟨⟨fb,fq,fst⟩,pe,pc,⟨rr,rt,rl,ro,ra⟩,⟨sr,sl,ss,sf⟩,⟨mc,mh,cy,cz⟩⟩=1))=ae:=by simp[e]
  have hl5:=pq ⟨⟨fb,fq,fst⟩,pe,pc,⟨rr,rt,rl,ro,ra⟩,⟨sr,sl,ss,sf⟩,⟨mc,mh,cy,cz⟩⟩ 5
  have zq1:=pq (bM ⟨⟨fb,fq,fst⟩,pe,pc,⟨rr,rt,rl,ro,ra⟩,⟨sr,sl,ss,sf⟩,⟨mc,mh,cy,cz⟩⟩ 5).p 0
  have hn5:0<=(bM ⟨⟨fb,fq,fst⟩,pe,pc,⟨rr,rt,rl,ro,ra⟩,⟨sr,sl,ss,sf⟩,⟨mc,mh,cy,cz⟩⟩ 5).n/\(bM ⟨⟨fb,fq,fst⟩,pe,pc,⟨rr,rt,rl,ro,ra⟩,⟨sr,sl,ss,sf⟩,⟨mc,mh,cy,cz⟩⟩ 5).n<=127:=by
   rw[zho hp]
   exact tU hp
  dsimp only at hl5 zq1
  repeat' (conv=>whnf);first|refine az.mk ?_ ?_;exact gS|(refine ao _ (aM (λ _ h=>h) (aM rfl ?_)))|refine End.mk ?_|apply gU;exact gA|refine gB ?_ ?_<;>intro hb h<;>try exact c8
  (refine ao _ (ao _ (aM (λ _ h=>h) (aM (by rw[e];exact rfl) (aM rfl ?_)))))
  cases kU:decide ((bM ⟨⟨fb,fq,fst⟩,pe,pc,⟨rr,rt,rl,ro,ra⟩,⟨sr,sl,ss,sf⟩,⟨mc,mh,cy,cz⟩⟩ 5).n/2 % 2=1)<;>cases AH:decide ((bM ⟨⟨fb,fq,fst⟩,pe,pc,⟨rr,rt,rl,ro,ra⟩,⟨sr,sl,ss,sf⟩,⟨mc,mh,cy,cz⟩⟩ 5).n/4 % 2=1)<;>cases hb8:decide ((bM ⟨⟨fb,fq,fst⟩,pe,pc,⟨rr,rt,rl,ro,ra⟩,⟨sr,sl,ss,sf⟩,⟨mc,mh,cy,cz⟩⟩ 5).n/8 % 2=1)
  all_goals
   have key:=zdy hs e kU AH hb8
   have g2:=zvY hn5 kU
   have g12:=zr5 hn5 AH hb8
   simp only[Bool.or_true,zHT,Bool.true_or,wJ,Bool.or_self] at key g12
   repeat' (conv=>whnf);first|refine az.mk ?_ ?_;exact gS|(refine ao _ (aM (λ _ h=>h) (aM rfl ?_)))|refine End.mk ?_|apply gU;exact gA|refine gB ?_ ?_<;>intro hb h<;>try exact c8
   first
    |((refine ao ⟨(⟨_,_⟩,i),key,hi,ho⟩ (ao [0,1,2,7,8,5,6] (aM ?_ ?_)));(focus (show 40-(n+1)<40-n;omega));(repeat' first|refine az.mk ?_ ?_;exact gV|exact aV);done)
    |((refine ao ⟨(⟨_,_⟩,i),key,hi,ho⟩ (ao [0,1,2,10,11,5,6] (aM ?_ ?_)));(focus (show 40-(n+1)<40-n;omega));(repeat' first|refine az.mk ?_ ?_;exact gV|exact aV);done)
 |data e6 e2 e0 e1 e hx _=>
  have d1:(!decide (da ⟨⟨fb,fq,fst⟩,pe,pc,⟨rr,rt,rl,ro,ra⟩,⟨sr,sl,ss,sf⟩,⟨mc,mh,cy,cz⟩⟩=1))=ae:=by simp[e1]
  have hl0:=pq ⟨⟨fb,fq,fst⟩,pe,pc,⟨rr,rt,rl,ro,ra⟩,⟨sr,sl,ss,sf⟩,⟨mc,mh,cy,cz⟩⟩ 0
  dsimp only at hl0
  repeat' (conv=>whnf);first|refine az.mk ?_ ?_;exact gS|(refine ao _ (aM (λ _ h=>h) (aM rfl ?_)))|refine End.mk ?_|apply gU;exact gA|refine gB ?_ ?_<;>intro hb h<;>try exact c8
  rcases e with e|e
  all_goals
   (refine ao _ (ao _ (aM (λ _ h=>h) (aM (by rw[e];exact rfl) (aM rfl ?_)))))
   by_cases hq:qi.length<32
   ·have key:=OO hs e6 e2 e0 e1 (b:=ae) (by simpa using hq)
    dsimp only at key
    repeat' (conv=>whnf);first|refine az.mk ?_ ?_;exact gS|(refine ao _ (aM (λ _ h=>h) (aM rfl ?_)))|refine End.mk ?_|apply gU;exact gA|refine gB ?_ ?_<;>intro hb h<;>try exact c8
    (refine ao ⟨(⟨_,_⟩,i),key,hi,ho⟩ (ao [0,1,2,7,8,5,6] (aM ?_ ?_)))
    ·show 40-(n+1)<40-n
     omega
    ·repeat' first|refine az.mk ?_ ?_;exact gV|exact aV
   ·have key:=OO hs e6 e2 e0 e1 (b:=aa) (by simpa using hq)
    dsimp only at key
    repeat' (conv=>whnf);first|refine az.mk ?_ ?_;exact gS|(refine ao _ (aM (λ _ h=>h) (aM rfl ?_)))|refine End.mk ?_|apply gU;exact gA|refine gB ?_ ?_<;>intro hb h<;>try exact c8
    (refine ao ⟨(⟨_,_⟩,i),key,hi,ho⟩ (ao [0,1,2,7,8,5,6] (aM ?_ ?_)))
    ·show 40-(n+1)<40-n
     omega
    ·repeat' first|refine az.mk ?_ ?_;exact gV|exact aV
 |empty e he hx=>
  have d1:(!decide (da ⟨⟨fb,fq,fst⟩,pe,pc,⟨rr,rt,rl,ro,ra⟩,⟨sr,sl,ss,sf⟩,⟨mc,mh,cy,cz⟩⟩=1))=ae:=by simp[e]
  have hpe:0<=pe/\pe<=15:=(dV hp).2.1
  repeat' (conv=>whnf);first|refine az.mk ?_ ?_;exact gS|(refine ao _ (aM (λ _ h=>h) (aM rfl ?_)))|refine End.mk ?_|apply gU;exact gA|refine gB ?_ ?_<;>intro hb h<;>try exact c8
  (refine ao _ (ao _ (aM (λ _ h=>h) (aM (by rw[e];exact rfl) (aM rfl ?_)))))
  by_cases hi2:i<Cs.length
  ·have hw:=U3 hi2
   rw[hw] at ho
   have hp5:=(dV hp).2.2.2.2
   rw[ho] at hqo
   have hb:eF (Cs.getD i 0)=ae:=(qK hqo.2).1
   have hc:(eF (Cs.getD (i+dT 0) 0) && decide ((sl.length:Int)<sr))=ae:=by
    have h1:=(kC hp5).1.2.2
    replace hx:sl=[]:=hx
    subst hx
    dsimp only at h1
    simp
    exact⟨hb,by omega⟩
   repeat' (conv=>whnf);first|refine az.mk ?_ ?_;exact gS|(refine ao _ (aM (λ _ h=>h) (aM rfl ?_)))|refine End.mk ?_|apply gU;exact gA|refine gB ?_ ?_<;>intro hb h<;>try exact c8
   refine iK.un 1 ?_
   repeat' (conv=>whnf);first|refine az.mk ?_ ?_;exact gS|refine Fork.mk ?_ ?_;exact Yr|refine End.mk ?_|apply gU;exact gA|refine gB ?_ ?_<;>intro hb h<;>try exact c8
   refine UC.inv {s:yz×Nat // zd7 ⟨sr,sl,ss,sf⟩ qo (s.1,Cs.drop s.2)/\s.2<=Cs.length} (λ _=>[]) (λ s=>[(0,.b (Wr (G6 ⟨⟨⟨fb,fq,fst⟩,pe,pc,⟨rr,rt,rl,ro,ra⟩,⟨sr,sl,ss,sf⟩,⟨mc,mh,cy,cz⟩⟩,qi,qo,cw,cl⟩ s.1.1 qo) 8 9 5 6 s.1.2 (Cs.length-s.1.2)) 36),(7,.d),(8,.r 0 96 (.bK rl)),(9,.r 0 3 (.ints s.1.1.items))]) (λ s=>Cs.length-s.1.2) ⟨(⟨sr,sl++[Cs.getD i 0],ss,sf⟩,i+1),by rw[ho];exact Vh hp5 hx hqo.2 hqo.1,hi2⟩ [0,1,2,3,4,5,6,7,8,9] ?_ ?_
   ·repeat' (first|(refine az.mk ?_ ?_;focus (first|with_reducible exact rfl|exact λ _ h=>h|exact⟨⟨rfl,rfl,rfl,rfl⟩,trivial⟩|(simp only[EL.len];done)|(simp[EL.len];done)|exact⟨rfl,trivial⟩|exact⟨⟨rfl,rfl⟩,rfl,rfl⟩|exact⟨rfl,rfl,trivial⟩|exact rfl|kernel_rfl))|exact aV)
   rintro⟨⟨⟨sr',DF,ss',sf'⟩,j⟩,hI,hj⟩
   dsimp only[Wr,G6]
   have hI2:=(kC hI.2.1)
   have hI3:=hI.2.2
   dsimp only at hI2 hI3 hj
   obtain⟨p1,p2,p3,p4,p5⟩:=dV hp
   have hpi:eS ⟨⟨fb,fq,fst⟩,pe,pc,⟨rr,rt,rl,ro,ra⟩,⟨sr',DF,ss',sf'⟩,⟨mc,mh,cy,cz⟩⟩=ae:=jz p1 p2 p3 p4 hI.2.1
   clear p1 p2 p3 p4 p5
   by_cases hj2:j<Cs.length
   ·have hw2:=U3 hj2
    rw[hw2] at hI hI3
    have hqc:eF (Cs.getD j 0)=ae:=(qK hI3.1).1
    by_cases hr:(DF.length:Int)<sr'
    ·have hc2:(eF (Cs.getD (j+dT 0) 0) && decide ((DF.length:Int)<sr'))=ae:=by
      simp
      exact⟨hqc,hr⟩
     repeat' (conv=>whnf);first|refine az.mk ?_ ?_;exact gS|refine Fork.mk ?_ ?_;exact Yr|refine End.mk ?_|apply gU;exact gA|refine gB ?_ ?_<;>intro hb h<;>try exact c8
     (refine ao ⟨(_,j+1),PW hI hr,hj2⟩ (ao [0,1,2,3,4,5,6,7,11,12] (aM ?_ ?_)))
     ·show Cs.length-(j+1)<Cs.length-j
      omega
     ·repeat' (first|(refine az.mk ?_ ?_;focus (first|with_reducible exact rfl|exact λ _ h=>h|exact⟨⟨rfl,rfl,rfl,rfl⟩,trivial⟩|(simp only[EL.len];done)|(simp[EL.len];done)|exact⟨rfl,trivial⟩|exact⟨⟨rfl,rfl⟩,rfl,rfl⟩|exact⟨rfl,rfl,trivial⟩|exact rfl|kernel_rfl))|exact aV)
    ·have hc2:(eF (Cs.getD (j+dT 0) 0) && decide ((DF.length:Int)<sr'))=aa:=by simp[hr]
     have key:=CQ hs e (by rw[ho];simp) (OQ hI (.inr hr))
     rw[<-hw2] at key
     repeat' (conv=>whnf);first|refine az.mk ?_ ?_;exact gS|refine Fork.mk ?_ ?_;exact Yr|refine End.mk ?_|apply gU;exact gA|refine gB ?_ ?_<;>intro hb h<;>try exact c8
     (refine ao ⟨(⟨_,_⟩,j),key,hj,rfl⟩ (ao [0,1,2,8,9,5,6] (aM ?_ ?_)))
     ·show 40-(n+1)<40-n
      omega
     ·repeat' first|refine az.mk ?_ ?_;exact gV|exact aV
   ·have hj3:Cs.drop j=[]:=eZ (by omega)
    have key:=CQ hs e (by rw[ho];simp) (OQ hI (.inl hj3))
    repeat' (conv=>whnf);first|refine az.mk ?_ ?_;exact gS|refine Fork.mk ?_ ?_;exact Yr|refine End.mk ?_|apply gU;exact gA|refine gB ?_ ?_<;>intro hb h<;>try exact c8
    (refine ao ⟨(⟨_,_⟩,j),key,hj,rfl⟩ (ao [0,1,2,8,9,5,6] (aM ?_ ?_)))
    ·show 40-(n+1)<40-n
     omega
    ·repeat' first|refine az.mk ?_ ?_;exact gV|exact aV
  ·have ho2:qo=[]:=by rw[ho];exact eZ (by omega)
   have key:=Vf hs e ho2 (zvx hpe he)
   have hq:([]:List Int)=Cs.drop i:=by rw[<-ho,ho2]
   repeat' (conv=>whnf);first|refine az.mk ?_ ?_;exact gS|(refine ao _ (aM (λ _ h=>h) (aM rfl ?_)))|refine End.mk ?_|apply gU;exact gA|refine gB ?_ ?_<;>intro hb h<;>try exact c8
   (refine ao ⟨(⟨_,_⟩,i),key,hi,hq⟩ (ao [0,1,2,3,4,5,6] (aM ?_ ?_)))
   ·show 40-(n+1)<40-n
    omega
   ·repeat' first|refine az.mk ?_ ?_;exact gV|exact aV
def zE6:Env:=[(51,uC)]
theorem zET:bg al.prog zE6:=aC ⟨vV,trivial⟩
def zE8:Nat->Tr:=λ n=>match n with
 |1=>.op 0 0 (.op 1 0 (.op 3 0 (.op 4 0 (.op 2 1 (.op 5 1 (.op 6 1 (.op 7 2 (.nil))))))))
 |_=>.nil
def zof:DA [qx]->(DV->Prop)->Prop:=λ⟨⟨fO,fW,cu,gC,gu,gL,gN,fP,gH,gE,fF,eM,fg,fC,gw,gy,cI,cK,lL,lJ,nc,m9,fN,fU,cq,gD,gv,gM,gP,fe,gJ,gG,fG,eQ,fH,fE,gx,gz,cJ,cL,ll,lM,ng,na,_⟩,_⟩ K=>K (.a (yx.d ⟨⟨⟨⟨fO,fW,cu⟩,gC,gu,⟨gL,gN,fP,gH,gE⟩,⟨fF,eM,fg,fC⟩,⟨gw,gy,cI,cK⟩⟩,lL,lJ,nc,m9⟩,⟨⟨⟨fN,fU,cq⟩,gD,gv,⟨gM,gP,fe,gJ,gG⟩,⟨fG,eQ,fH,fE⟩,⟨gx,gz,cJ,cL⟩⟩,ll,lM,ng,na⟩⟩))
theorem zE3:ji al.prog 53 [qx] zof:=by
 refine bh (TR:=zE8) aS aH zET (Rn.fM Tryz.func53) rfl ?_
 dsimp only[DA,HL,Sh.T]
 rintro⟨⟨fO,fW,cu,gC,gu,gL,gN,fP,gH,gE,fF,eM,fg,fC,gw,gy,cI,cK,lL,lJ,nc,m9,fN,fU,cq,gD,gv,gM,gP,fe,gJ,gG,fG,eQ,fH,fE,gx,gz,cJ,cL,ll,lM,ng,na,_⟩,_⟩ K hK ⟨⟨_,_,_,_,_,_,_,h1,_,_,_,h2,_,_,_,_,_,_,h3,h4,_,_,_,_,_,_,_,_,_,g1,_,_,_,g2,_,_,_,_,_,_,g3,g4,_⟩,_⟩
 dsimp only[zof] at hK
 replace h1:=gl fP h1
 replace h2:=gl eM h2
 replace h3:=gl lL h3
 replace h4:=gl lJ h4
 replace g1:=gl fe g1
 replace g2:=gl eQ g2
 replace g3:=gl ll g3
 replace g4:=gl lM g4
 exact gW
def zEO:CS:=dn [qx] zof
theorem zEY:bW al.prog 53 zEO:=bH zE3
def NV:Env:=[(46,oR)]
theorem FK:bg al.prog NV:=aC ⟨pd,trivial⟩
def Et:DA [qx]->(DV->Prop)->Prop:=λ⟨⟨fO,fW,cu,gC,gu,gL,gN,fP,gH,gE,fF,eM,fg,fC,gw,gy,cI,cK,lL,lJ,nc,m9,fN,fU,cq,gD,gv,gM,gP,fe,gJ,gG,fG,eQ,fH,fE,gx,gz,cJ,cL,ll,lM,ng,na,_⟩,_⟩ K=>K (.l (.v (.bool (ov ⟨⟨⟨⟨fO,fW,cu⟩,gC,gu,⟨gL,gN,fP,gH,gE⟩,⟨fF,eM,fg,fC⟩,⟨gw,gy,cI,cK⟩⟩,lL,lJ,nc,m9⟩,⟨⟨⟨fN,fU,cq⟩,gD,gv,⟨gM,gP,fe,gJ,gG⟩,⟨fG,eQ,fH,fE⟩,⟨gx,gz,cJ,cL⟩⟩,ll,lM,ng,na⟩⟩))))
theorem Ns:ji al.prog 18 [qx] Et:=by
 refine bh (TR:=ja) aS aH FK (Rn.fM Tryz.func18) rfl ?_
 dsimp only[DA,HL,Sh.T]
 rintro⟨⟨fO,fW,cu,gC,gu,gL,gN,fP,gH,gE,fF,eM,fg,fC,gw,gy,cI,cK,lL,lJ,nc,m9,fN,fU,cq,gD,gv,gM,gP,fe,gJ,gG,fG,eQ,fH,fE,gx,gz,cJ,cL,ll,lM,ng,na,_⟩,_⟩ K hK ⟨⟨_,_,_,_,_,_,_,h1,_,_,_,h2,_,_,_,_,_,_,h3,h4,_,_,_,_,_,_,_,_,_,g1,_,_,_,g2,_,_,_,_,_,_,g3,g4,_⟩,_⟩
 dsimp only[Et] at hK
 replace h1:=gl fP h1
 replace h2:=gl eM h2
 replace h3:=gl lL h3
 replace h4:=gl lJ h4
 replace g1:=gl fe g1
 replace g2:=gl eQ g2
 replace g3:=gl ll g3
 replace g4:=gl lM g4
 repeat' (conv=>whnf);first|refine az.mk ?_ ?_;exact gS|refine End.mk ?_|apply gU;exact gA|refine gB ?_ ?_<;>intro hb h<;>try exact c8
 all_goals
  (refine gI hK ?_;repeat' first|exact gR|refine az.mk ?_ ?_)
  simp_all [ov]
def rD:CS:=dn [qx] Et
theorem qX:bW al.prog 18 rD:=bH Ns
def N9:Env:=[(72,sN)]
theorem F3:bg al.prog N9:=aC ⟨uR,trivial⟩
def EF:DA [qx]->(DV->Prop)->Prop:=λ⟨⟨fO,fW,cu,gC,gu,gL,gN,fP,gH,gE,fF,eM,fg,fC,gw,gy,cI,cK,lL,lJ,nc,m9,fN,fU,cq,gD,gv,gM,gP,fe,gJ,gG,fG,eQ,fH,fE,gx,gz,cJ,cL,ll,lM,ng,na,_⟩,_⟩ K=>K (.l (.v (.bool (ov ⟨⟨⟨⟨fO,fW,cu⟩,gC,gu,⟨gL,gN,fP,gH,gE⟩,⟨fF,eM,fg,fC⟩,⟨gw,gy,cI,cK⟩⟩,lL,lJ,nc,m9⟩,⟨⟨⟨fN,fU,cq⟩,gD,gv,⟨gM,gP,fe,gJ,gG⟩,⟨fG,eQ,fH,fE⟩,⟨gx,gz,cJ,cL⟩⟩,ll,lM,ng,na⟩⟩))))
theorem NG:ji al.prog 39 [qx] EF:=by
 refine bh (TR:=ja) aS aH F3 (Rn.fM Tryz.func39) rfl ?_
 dsimp only[DA,HL,Sh.T]
 rintro⟨⟨fO,fW,cu,gC,gu,gL,gN,fP,gH,gE,fF,eM,fg,fC,gw,gy,cI,cK,lL,lJ,nc,m9,fN,fU,cq,gD,gv,gM,gP,fe,gJ,gG,fG,eQ,fH,fE,gx,gz,cJ,cL,ll,lM,ng,na,_⟩,_⟩ K hK ⟨⟨_,_,_,_,_,_,_,h1,_,_,_,h2,_,_,_,_,_,_,h3,h4,_,_,_,_,_,_,_,_,_,g1,_,_,_,g2,_,_,_,_,_,_,g3,g4,_⟩,_⟩
 dsimp only[EF] at hK
 replace h1:=gl fP h1
 replace h2:=gl eM h2
 replace h3:=gl lL h3
 replace h4:=gl lJ h4
 replace g1:=gl fe g1
 replace g2:=gl eQ g2
 replace g3:=gl ll g3
 replace g4:=gl lM g4
 repeat' (conv=>whnf);first|refine az.mk ?_ ?_;exact gS|refine End.mk ?_|apply gU;exact gA|refine gB ?_ ?_<;>intro hb h<;>try exact c8
 all_goals
  (refine gI hK ?_;repeat' first|exact gR|refine az.mk ?_ ?_)
  simp_all [ov]
def wS:CS:=dn [qx] EF
theorem xZ:bW al.prog 39 wS:=bH NG
def BS:Env:=[]
theorem Jg:bg al.prog BS:=aC trivial
def zv:CS:=Jt jV BS ja Tryz.f205
theorem Ad:bW al.prog 205 zv:=iy aS aH Jg (Rn.fM Tryz.func205)
def Em:Env:=[(136,tk),(183,uf),(205,zv)]
theorem Li:bg al.prog Em:=aC ⟨sP,rF,Ad,trivial⟩
def Me:CS:=Jt jV Em ja Tryz.f134
theorem Q2:bW al.prog 134 Me:=iy aS aH Li (Rn.fM Tryz.func134)
def El:Env:=[(136,tk),(205,zv)]
theorem Lg:bg al.prog El:=aC ⟨sP,Ad,trivial⟩
def Md:CS:=Jt jV El ja Tryz.f137
theorem Q1:bW al.prog 137 Md:=iy aS aH Lg (Rn.fM Tryz.func137)
def BT:Env:=[(206,Eb)]
theorem Jh:bg al.prog BT:=aC ⟨Kn,trivial⟩
def Uo:Nat->Tr:=λ n=>match n with
 |5=>.op 0 0 (.op 1 0 (.op 2 0 (.op 3 0 (.op 4 0 (.op 5 0 (.fork 6 1 (.op 7 0 (.op 8 0 (.op 9 0 (.op 10 1 (.op 11 1 (.op 12 2 (.nil))))))) 10 1 (.op 6 1 (.op 7 1 (.op 8 0 (.op 9 0 (.op 11 1 (.op 12 2 (.nil)))))))))))))
 |_=>.nil
def H0:CS:=Jt jV BT Uo Tryz.f135
theorem Nn:bW al.prog 135 H0:=iy aS aH Jh (Rn.fM Tryz.func135)
def Sc:Env:=[(54,vG),(133,Bp),(134,Me),(135,H0),(136,tk),(137,Md)]
theorem Ji:bg al.prog Sc:=aC ⟨uE,BL,Q2,Nn,sP,Q1,trivial⟩
def XJ:DA [oc]->(DV->Prop)->Prop:=λ⟨⟨fb,fq,fst,pe,pc,rr,rt,rl,ro,ra,sr,sl,ss,sf,mc,mh,cy,cz,qi,qo,cw,cl,_⟩,_⟩ K=>az (jj ⟨⟨⟨fb,fq,fst⟩,pe,pc,⟨rr,rt,rl,ro,ra⟩,⟨sr,sl,ss,sf⟩,⟨mc,mh,cy,cz⟩⟩,qi,qo,cw,cl⟩=ae) <| K (.t [.inr (iY.d (dA 40 ⟨⟨⟨fb,fq,fst⟩,pe,pc,⟨rr,rt,rl,ro,ra⟩,⟨sr,sl,ss,sf⟩,⟨mc,mh,cy,cz⟩⟩,qi,qo,cw,cl⟩).1),.inl (.v (.int .i64 (dA 40 ⟨⟨⟨fb,fq,fst⟩,pe,pc,⟨rr,rt,rl,ro,ra⟩,⟨sr,sl,ss,sf⟩,⟨mc,mh,cy,cz⟩⟩,qi,qo,cw,cl⟩).2))])
theorem RE:ji al.prog 74 [oc] XJ:=by
 refine bh (TR:=ja) aS aH Ji (Rn.fM Tryz.func74) rfl ?_
 dsimp only[DA,HL,Sh.T]
 rintro⟨⟨fbZ,fqZ,Gp,peZ,pcZ,rrZ,rtZ,rlZ,roZ,raZ,srZ,slZ,ssZ,sfZ,mcZ,mhZ,Gy,Gz,qiZ,Cs,cwZ,clZ,_⟩,_⟩ K ⟨hvZ,hK⟩ ⟨⟨-,-,-,-,-,-,-,h1,-,-,-,h2,-,-,-,-,-,-,h3,h4,-⟩,-⟩
 replace hK:K (.t [.inr (iY.d (dA 40 ⟨⟨⟨fbZ,fqZ,Gp⟩,peZ,pcZ,⟨rrZ,rtZ,rlZ,roZ,raZ⟩,⟨srZ,slZ,ssZ,sfZ⟩,⟨mcZ,mhZ,Gy,Gz⟩⟩,qiZ,Cs,cwZ,clZ⟩).1),.inl (.v (.int .i64 (dA 40 ⟨⟨⟨fbZ,fqZ,Gp⟩,peZ,pcZ,⟨rrZ,rtZ,rlZ,roZ,raZ⟩,⟨srZ,slZ,ssZ,sfZ⟩,⟨mcZ,mhZ,Gy,Gz⟩⟩,qiZ,Cs,cwZ,clZ⟩).2))]):=hK
 replace hvZ:jj ⟨⟨⟨fbZ,fqZ,Gp⟩,peZ,pcZ,⟨rrZ,rtZ,rlZ,roZ,raZ⟩,⟨srZ,slZ,ssZ,sfZ⟩,⟨mcZ,mhZ,Gy,Gz⟩⟩,qiZ,Cs,cwZ,clZ⟩=ae:=hvZ
 replace h1:=gl rlZ h1
 replace h2:=gl slZ h2
 replace h3:=gl qiZ h3
 replace h4:=gl Cs h4
 repeat' (conv=>whnf);first|refine az.mk ?_ ?_;exact gS|refine End.mk ?_|apply gU;exact gA|refine gB ?_ ?_<;>intro hb h<;>try exact c8
 refine iK.inv {s:VN // s.ok ⟨⟨⟨fbZ,fqZ,Gp⟩,peZ,pcZ,⟨rrZ,rtZ,rlZ,roZ,raZ⟩,⟨srZ,slZ,ssZ,sfZ⟩,⟨mcZ,mhZ,Gy,Gz⟩⟩,qiZ,Cs,cwZ,clZ⟩} (λ s=>[(10,.j),(5,.l (.v (.int .i64 s.1.n)))]) (λ s=>[(6,.b (Wp s.1.x 2 3 4 5) 36),(2,.r 0 96 (.bK s.1.x.p.rc.items)),(3,.r 0 3 (.ints s.1.x.p.sd.items)),(4,.r 0 3 (.ints s.1.x.tp)),(5,.r 0 3 (.ints s.1.x.out))]) (λ s=>40-s.1.n) ⟨⟨⟨⟨⟨fbZ,fqZ,Gp⟩,peZ,pcZ,⟨rrZ,rtZ,rlZ,roZ,raZ⟩,⟨srZ,slZ,ssZ,sfZ⟩,⟨mcZ,mhZ,Gy,Gz⟩⟩,qiZ,Cs,cwZ,clZ⟩,0⟩,Zq hvZ⟩ [0,1,2,3,4,5,6] ?_ ?_
 ·repeat' first|refine az.mk ?_ ?_;exact gV|exact aV
 clear h1 h2 h3 h4
 rintro⟨⟨⟨⟨⟨fb,fq,fst⟩,pe,pc,⟨rr,rt,rl,ro,ra⟩,⟨sr,sl,ss,sf⟩,⟨mc,mh,cy,cz⟩⟩,qi,qo,cw,cl⟩,n⟩,hs⟩
 dsimp only[Wp]
 have hv:=hs.1
 have hm:=hs.2.1
 obtain⟨hp,hqi,hqo,hcw,X6⟩:=fu hv
 have hl:=OP hp
 dsimp only at hp hqi hqo hcw X6 hl hm
 have hn:n<=19:=by omega
 cases zbb hp with
 |none e _ _=>
  have d1:decide (da ⟨⟨fb,fq,fst⟩,pe,pc,⟨rr,rt,rl,ro,ra⟩,⟨sr,sl,ss,sf⟩,⟨mc,mh,cy,cz⟩⟩=1)=ae:=by simp[e]
  rw[zdz hs e] at hK
  exact gW
 |zc3 e hx=>
  have hn1:da ⟨⟨fb,fq,fst⟩,pe,pc,⟨rr,rt,rl,ro,ra⟩,⟨sr,sl,ss,sf⟩,⟨mc,mh,cy,cz⟩⟩≠1:=by omega
  have d1:decide (da ⟨⟨fb,fq,fst⟩,pe,pc,⟨rr,rt,rl,ro,ra⟩,⟨sr,sl,ss,sf⟩,⟨mc,mh,cy,cz⟩⟩=1)=aa:=by simp[e]
  have d6:decide (da ⟨⟨fb,fq,fst⟩,pe,pc,⟨rr,rt,rl,ro,ra⟩,⟨sr,sl,ss,sf⟩,⟨mc,mh,cy,cz⟩⟩=6)=aa:=by simp[e]
  have d2:decide (da ⟨⟨fb,fq,fst⟩,pe,pc,⟨rr,rt,rl,ro,ra⟩,⟨sr,sl,ss,sf⟩,⟨mc,mh,cy,cz⟩⟩=2)=aa:=by simp[e]
  have d0:decide (da ⟨⟨fb,fq,fst⟩,pe,pc,⟨rr,rt,rl,ro,ra⟩,⟨sr,sl,ss,sf⟩,⟨mc,mh,cy,cz⟩⟩=0)=ae:=by simp[e]
  have hl6:=pq ⟨⟨fb,fq,fst⟩,pe,pc,⟨rr,rt,rl,ro,ra⟩,⟨sr,sl,ss,sf⟩,⟨mc,mh,cy,cz⟩⟩ 6
  dsimp only at hl6
  repeat' (conv=>whnf);first|refine az.mk ?_ ?_;exact gS|refine End.mk ?_|apply gU;exact gA|refine gB ?_ ?_<;>intro hb h<;>try exact c8
  have key:=Zp hs e
  dsimp only at key
  (refine ao ⟨⟨_,_⟩,key⟩ (ao [0,1,7,8,4,5,6] (aM ?_ ?_)))
  ·show 40-(n+1)<40-n
   omega
  ·repeat' first|refine az.mk ?_ ?_;exact gV|exact aV
 |line e he hx=>
  have hn1:da ⟨⟨fb,fq,fst⟩,pe,pc,⟨rr,rt,rl,ro,ra⟩,⟨sr,sl,ss,sf⟩,⟨mc,mh,cy,cz⟩⟩≠1:=by omega
  have d1:decide (da ⟨⟨fb,fq,fst⟩,pe,pc,⟨rr,rt,rl,ro,ra⟩,⟨sr,sl,ss,sf⟩,⟨mc,mh,cy,cz⟩⟩=1)=aa:=by simp[e]
  have d6:decide (da ⟨⟨fb,fq,fst⟩,pe,pc,⟨rr,rt,rl,ro,ra⟩,⟨sr,sl,ss,sf⟩,⟨mc,mh,cy,cz⟩⟩=6)=ae:=by simp[e]
  have hl5:=pq ⟨⟨fb,fq,fst⟩,pe,pc,⟨rr,rt,rl,ro,ra⟩,⟨sr,sl,ss,sf⟩,⟨mc,mh,cy,cz⟩⟩ 5
  have zq1:=pq (bM ⟨⟨fb,fq,fst⟩,pe,pc,⟨rr,rt,rl,ro,ra⟩,⟨sr,sl,ss,sf⟩,⟨mc,mh,cy,cz⟩⟩ 5).p 0
  have hn5:0<=(bM ⟨⟨fb,fq,fst⟩,pe,pc,⟨rr,rt,rl,ro,ra⟩,⟨sr,sl,ss,sf⟩,⟨mc,mh,cy,cz⟩⟩ 5).n/\(bM ⟨⟨fb,fq,fst⟩,pe,pc,⟨rr,rt,rl,ro,ra⟩,⟨sr,sl,ss,sf⟩,⟨mc,mh,cy,cz⟩⟩ 5).n<=127:=by
   rw[zho hp]
   exact tU hp
  dsimp only at hl5 zq1
  cases kU:decide ((bM ⟨⟨fb,fq,fst⟩,pe,pc,⟨rr,rt,rl,ro,ra⟩,⟨sr,sl,ss,sf⟩,⟨mc,mh,cy,cz⟩⟩ 5).n/2 % 2=1)<;>cases AH:decide ((bM ⟨⟨fb,fq,fst⟩,pe,pc,⟨rr,rt,rl,ro,ra⟩,⟨sr,sl,ss,sf⟩,⟨mc,mh,cy,cz⟩⟩ 5).n/4 % 2=1)<;>cases hb8:decide ((bM ⟨⟨fb,fq,fst⟩,pe,pc,⟨rr,rt,rl,ro,ra⟩,⟨sr,sl,ss,sf⟩,⟨mc,mh,cy,cz⟩⟩ 5).n/8 % 2=1)
  all_goals
   have key:=zdy hs e kU AH hb8
   dsimp only[Bool.or_true,zHT,Bool.true_or,wJ] at key
  all_goals
   repeat' (conv=>whnf);first|refine az.mk ?_ ?_;exact gS|refine End.mk ?_|apply gU;exact gA|refine gB ?_ ?_<;>intro hb h<;>try exact c8
   first
    |((refine ao ⟨⟨_,_⟩,key⟩ (ao [0,1,9,10,4,5,6] (aM ?_ ?_)));(focus (show 40-(n+1)<40-n;omega));(repeat' first|refine az.mk ?_ ?_;exact gV|exact aV);done)
    |((refine ao ⟨⟨_,_⟩,key⟩ (ao [0,1,12,13,4,5,6] (aM ?_ ?_)));(focus (show 40-(n+1)<40-n;omega));(repeat' first|refine az.mk ?_ ?_;exact gV|exact aV);done)
 |data e6 e2 e0 e1 e hx _=>
  have d1:decide (da ⟨⟨fb,fq,fst⟩,pe,pc,⟨rr,rt,rl,ro,ra⟩,⟨sr,sl,ss,sf⟩,⟨mc,mh,cy,cz⟩⟩=1)=aa:=by simp[e1]
  have d6:decide (da ⟨⟨fb,fq,fst⟩,pe,pc,⟨rr,rt,rl,ro,ra⟩,⟨sr,sl,ss,sf⟩,⟨mc,mh,cy,cz⟩⟩=6)=aa:=by simp[e6]
  have d2:decide (da ⟨⟨fb,fq,fst⟩,pe,pc,⟨rr,rt,rl,ro,ra⟩,⟨sr,sl,ss,sf⟩,⟨mc,mh,cy,cz⟩⟩=2)=aa:=by simp[e2]
  have d0:decide (da ⟨⟨fb,fq,fst⟩,pe,pc,⟨rr,rt,rl,ro,ra⟩,⟨sr,sl,ss,sf⟩,⟨mc,mh,cy,cz⟩⟩=0)=aa:=by simp[e0]
  have hl0:=pq ⟨⟨fb,fq,fst⟩,pe,pc,⟨rr,rt,rl,ro,ra⟩,⟨sr,sl,ss,sf⟩,⟨mc,mh,cy,cz⟩⟩ 0
  dsimp only at hl0
  by_cases hq:qi.length<32
  ·have key:=OO hs e6 e2 e0 e1 (b:=ae) (by simpa using hq)
   dsimp only at key
   repeat' (conv=>whnf);first|refine az.mk ?_ ?_;exact gS|refine End.mk ?_|apply gU;exact gA|refine gB ?_ ?_<;>intro hb h<;>try exact c8
   (refine ao ⟨⟨_,_⟩,key⟩ (ao [0,1,9,10,4,5,6] (aM ?_ ?_)))
   ·show 40-(n+1)<40-n
    omega
   ·repeat' first|refine az.mk ?_ ?_;exact gV|exact aV
  ·have key:=OO hs e6 e2 e0 e1 (b:=aa) (by simpa using hq)
   dsimp only at key
   repeat' (conv=>whnf);first|refine az.mk ?_ ?_;exact gS|refine End.mk ?_|apply gU;exact gA|refine gB ?_ ?_<;>intro hb h<;>try exact c8
   (refine ao ⟨⟨_,_⟩,key⟩ (ao [0,1,9,10,4,5,6] (aM ?_ ?_)))
   ·show 40-(n+1)<40-n
    omega
   ·repeat' first|refine az.mk ?_ ?_;exact gV|exact aV
 |empty e he hx=>
  have d1:decide (da ⟨⟨fb,fq,fst⟩,pe,pc,⟨rr,rt,rl,ro,ra⟩,⟨sr,sl,ss,sf⟩,⟨mc,mh,cy,cz⟩⟩=1)=aa:=by simp[e]
  have d6:decide (da ⟨⟨fb,fq,fst⟩,pe,pc,⟨rr,rt,rl,ro,ra⟩,⟨sr,sl,ss,sf⟩,⟨mc,mh,cy,cz⟩⟩=6)=aa:=by simp[e]
  have d2:decide (da ⟨⟨fb,fq,fst⟩,pe,pc,⟨rr,rt,rl,ro,ra⟩,⟨sr,sl,ss,sf⟩,⟨mc,mh,cy,cz⟩⟩=2)=ae:=by simp[e]
  cases ho:qo with
  |nil=>
   subst ho
   have hpe:0<=pe/\pe<=15:=(dV hp).2.1
   have key:=Vf hs e rfl (en:=pe-2) rfl
   repeat' (conv=>whnf);first|refine az.mk ?_ ?_;exact gS|refine End.mk ?_|apply gU;exact gA|refine gB ?_ ?_<;>intro hb h<;>try exact c8
   (refine ao ⟨⟨_,_⟩,key⟩ (ao [0,1,2,3,4,5,6] (aM ?_ ?_)))
   ·show 40-(n+1)<40-n
    omega
   ·repeat' first|refine az.mk ?_ ?_;exact gV|exact aV
  |cons b r=>
   subst ho
   have hb:eF b=ae:=(qK hqo.2).1
   have hp5:=(dV hp).2.2.2.2
   have hlen:0<(b::r).length:=Nat.succ_pos _
   have hc:(eF ((b::r).getD (dT 0) 0) && decide ((sl.length:Int)<sr))=ae:=by
    have h1:=(kC hp5).1.2.2
    replace hx:sl=[]:=hx
    subst hx
    dsimp only at h1
    simp[hb]
    omega
   repeat' (conv=>whnf);first|refine az.mk ?_ ?_;exact gS|refine End.mk ?_|apply gU;exact gA|refine gB ?_ ?_<;>intro hb h<;>try exact c8
   refine iK.un 1 ?_
   repeat' (conv=>whnf);first|refine az.mk ?_ ?_;exact gS|refine Fork.mk ?_ ?_;exact Yr|refine End.mk ?_|apply gU;exact gA|refine gB ?_ ?_<;>intro hb h<;>try exact c8
   refine UC.inv {s:yz×List Int // zd7 ⟨sr,sl,ss,sf⟩ (b::r) s} (λ _=>[]) (λ s=>[(7,.b (Wp (G6 ⟨⟨⟨fb,fq,fst⟩,pe,pc,⟨rr,rt,rl,ro,ra⟩,⟨sr,sl,ss,sf⟩,⟨mc,mh,cy,cz⟩⟩,qi,b::r,cw,cl⟩ s.1.1 s.1.2) 10 11 4 12) 36),(9,.d),(10,.r 0 96 (.bK rl)),(11,.r 0 3 (.ints s.1.1.items)),(12,.r 0 3 (.ints s.1.2))]) (λ s=>s.1.2.length) ⟨(⟨sr,sl++[b],ss,sf⟩,r),Vh hp5 hx hqo.2 hqo.1⟩ [0,1,2,3,4,5,6,7,8,9,10,11,12] ?_ ?_
   ·repeat' (first|(refine az.mk ?_ ?_;focus (first|with_reducible exact rfl|exact λ _ h=>h|exact⟨⟨rfl,rfl,rfl,rfl⟩,trivial⟩|(simp only[EL.len];done)|(simp[EL.len];done)|exact⟨rfl,trivial⟩|exact⟨⟨rfl,rfl⟩,rfl,rfl⟩|exact⟨rfl,rfl,trivial⟩|exact rfl|kernel_rfl))|exact aV)
   rintro⟨⟨⟨sr',DF,ss',sf'⟩,q⟩,hI⟩
   dsimp only[Wp,G6]
   have hI2:=(kC hI.2.1)
   have hI3:=hI.2.2
   dsimp only at hI2 hI3
   obtain⟨p1,p2,p3,p4,p5⟩:=dV hp
   have hpi:eS ⟨⟨fb,fq,fst⟩,pe,pc,⟨rr,rt,rl,ro,ra⟩,⟨sr',DF,ss',sf'⟩,⟨mc,mh,cy,cz⟩⟩=ae:=jz p1 p2 p3 p4 hI.2.1
   clear p1 p2 p3 p4 p5
   cases q with
   |nil=>
    have key:=CQ hs e (by simp) (OQ hI (.inl rfl))
    repeat' (conv=>whnf);first|refine az.mk ?_ ?_;exact gS|refine Fork.mk ?_ ?_;exact Yr|refine End.mk ?_|apply gU;exact gA|refine gB ?_ ?_<;>intro hb h<;>try exact c8
    (refine ao ⟨⟨_,_⟩,key⟩ (ao [0,1,10,11,4,12,6] (aM ?_ ?_)))
    ·show 40-(n+1)<40-n
     omega
    ·repeat' first|refine az.mk ?_ ?_;exact gV|exact aV
   |cons c q=>
    have hqc:eF c=ae:=(qK hI3.1).1
    have zBg:0<(c::q).length:=Nat.succ_pos _
    by_cases hr:(DF.length:Int)<sr'
    ·have hc2:(eF ((c::q).getD (dT 0) 0) && decide ((DF.length:Int)<sr'))=ae:=by simp[hqc,hr]
     repeat' (conv=>whnf);first|refine az.mk ?_ ?_;exact gS|refine Fork.mk ?_ ?_;exact Yr|refine End.mk ?_|apply gU;exact gA|refine gB ?_ ?_<;>intro hb h<;>try exact c8
     (refine ao ⟨(_,q),PW hI hr⟩ (ao [0,1,2,3,4,5,6,7,8,9,14,15,16] (aM ?_ ?_)))
     ·show q.length<(c::q).length
      exact Nat.lt_succ_self _
     ·repeat' (first|(refine az.mk ?_ ?_;focus (first|with_reducible exact rfl|exact λ _ h=>h|exact⟨⟨rfl,rfl,rfl,rfl⟩,trivial⟩|(simp only[EL.len];done)|(simp[EL.len];done)|exact⟨rfl,trivial⟩|exact⟨⟨rfl,rfl⟩,rfl,rfl⟩|exact⟨rfl,rfl,trivial⟩|exact rfl|kernel_rfl))|exact aV)
    ·have hc2:(eF ((c::q).getD (dT 0) 0) && decide ((DF.length:Int)<sr'))=aa:=by simp[hr]
     have key:=CQ hs e (by simp) (OQ hI (.inr hr))
     repeat' (conv=>whnf);first|refine az.mk ?_ ?_;exact gS|refine Fork.mk ?_ ?_;exact Yr|refine End.mk ?_|apply gU;exact gA|refine gB ?_ ?_<;>intro hb h<;>try exact c8
     (refine ao ⟨⟨_,_⟩,key⟩ (ao [0,1,10,11,4,12,6] (aM ?_ ?_)))
     ·show 40-(n+1)<40-n
      omega
     ·repeat' first|refine az.mk ?_ ?_;exact gV|exact aV
def pw(n:Int):Int:=if n<=5 then 32 else if n<=6 then 64 else if n<=7 then 128 else 256
def zf9(a b:X4)(g:Int):Int:=g % pw (yI a.bits b.bits)
def rL(a b:X4):Int:=if a=b then 0 else 2
def oK(r:yy)(a f:X4)(gone:Int):yy:=if gone<0 then yR r else LN r (zf9 a f gone,rL a f)
def s6(p:re)(f:X4)(gone:Int):yy:=oK p.rc p.f f gone
def M0(m:Jp)(c:Int):Jp:=GN m (decide (c/2 % 2=1)) (decide (c % 2=1))
def yQ(p q:re):re:=⟨p.f,p.en,p.co,s6 p q.f (iu q.sd).2,(iu p.sd).1,M0 p.md q.co⟩
structure VM where
 a:re
 b:re
def VM.d(x:VM):List DL:=x.a.d++x.b.d
def xf(x:VM):Bool:=eS x.a && eS x.b
def vv(x:VM):VM:=⟨yQ x.a x.b,yQ x.b x.a⟩
def zuR:VM:=⟨C9,C9⟩
structure zqM where
 p:VM
 ok:Bool
def yN(x:VM):zqM:=if xf x then ⟨vv x,ae⟩ else ⟨zuR,aa⟩
def zqM.d(x:zqM):DV:=.t [.inr x.p.d,.inl (.v (.bool x.ok))]
theorem znf:∀(k:Fin 4) (b:Fin 256),aL.wrap (aZ aL.bits (b.val:Int) &&& aZ aL.bits (pw ((k.val:Int)+5)-1)).toNat=(b.val:Int) % pw ((k.val:Int)+5):=by decide +kernel
theorem zne{n:Int}(hn:5<=n/\n<=8)(hb:0<=b/\b<=255):aL.wrap (aZ aL.bits b &&& aZ aL.bits (pw n-1)).toNat=b % pw n:=by
 have h:=znf ⟨(n-5).toNat,by omega⟩ ⟨b.toNat,by omega⟩
 have e1:(((n-5).toNat:Nat):Int)+5=n:=by omega
 have e2:((b.toNat:Nat):Int)=b:=by omega
 simp only[e1,e2] at h
 exact h
theorem zbj{n:Int}(hn:5<=n/\n<=8):aL.wrap (1*2 ^ (min n.toNat aL.bits))=pw n:=by
 have hc:n=5\/n=6\/n=7\/n=8:=by omega
 rcases hc with rfl|rfl|rfl|rfl<;>decide +kernel
theorem UP(n:Int):32<=pw n/\pw n<=256:=by
 unfold pw
 split
 ·omega
 ·split
  ·omega
  ·split<;>omega
theorem zrz:∀c:Fin 4,(!decide (aL.wrap (aZ aL.bits (c.val:Int) &&& aZ aL.bits 2).toNat=0))=decide ((c.val:Int)/2 % 2=1):=by decide +kernel
theorem zry:∀c:Fin 4,(!decide (aL.wrap (aZ aL.bits (c.val:Int) &&& aZ aL.bits 1).toNat=0))=decide ((c.val:Int) % 2=1):=by decide +kernel
variable{a:Int}
theorem zdx(ha:5<=a/\a<=8)(hb:5<=b/\b<=8):5<=yI a b/\yI a b<=8:=by
 unfold yI
 split<;>omega
theorem xM(hv:lK s=ae):(iu s).2=-1\/(0<=(iu s).2/\(iu s).2<=255):=by
 obtain⟨_,_,h⟩:=kC hv
 have e:(iu s).2=(zR s).1:=by
  unfold iu
  split
  ·split<;>rfl
  ·rfl
 rw[e]
 unfold zR
 split
 ·exact .inl rfl
 ·split
  ·rcases h with h|h
   ·omega
   ·right
    show 0<=s.shift/\s.shift<=255
    omega
  ·exact .inl rfl
theorem Z8{r:yy}(h:ir r=ae):ir (yR r)=ae:=by
 obtain⟨h1,h2,h3,h4,h5⟩:=oN h
 refine xu h1 h2 h3 ?_ h5
 split
 ·unfold yI
  split<;>omega
 ·omega
theorem zbV{r:yy}{g:Int×Int}(h:ir r=ae)(hg:xe g=ae):ir (LN r g)=ae:=by
 obtain⟨h1,h2,h3,h4,h5⟩:=oN h
 unfold LN
 split
 ·refine xu h1 h2 (by simp;omega) (by omega) ?_
  simp only[EU,List.all_append,List.all_cons,List.all_nil,hg,Bool.and_true]
  exact h5
 ·exact xu h1 h2 h3 (by omega) h5
variable{g:Int}
theorem WK{a b:X4}(hg:0<=g/\g<=255):xe (zf9 a b g,rL a b)=ae:=by
 have hp:=UP (yI a.bits b.bits)
 have h1:0<=zf9 a b g:=jq _ (by omega)
 have h2:zf9 a b g<=255:=by
  have h3:zf9 a b g<pw (yI a.bits b.bits):=Int.emod_lt_of_pos _ (by omega)
  omega
 have h4:0<=rL a b/\rL a b<=2:=by unfold rL;split<;>omega
 simp[xe,eF,h1,h2,h4.1,h4.2]
theorem W4{x:VM}(h:xf x=ae):eS x.a=ae/\eS x.b=ae:=by
 simpa [xf] using h
theorem Xk{q:re}(hp:eS p=ae)(hq:eS q=ae):ir (s6 p q.f (iu q.sd).2)=ae:=by
 obtain⟨_,_,_,h4,_⟩:=dV hp
 obtain⟨_,_,_,_,h5⟩:=dV hq
 unfold s6 oK
 split
 ·exact Z8 h4
 ·rcases xM h5 with h|h
  ·omega
  ·exact zbV h4 (WK h)
theorem XE{q:re}(hp:eS p=ae)(hq:eS q=ae):eS (yQ p q)=ae:=by
 obtain⟨h1,h2,h3,h4,h5⟩:=dV hp
 exact jz h1 h2 h3 (Xk hp hq) (Fy h5)
theorem zi7{q:re}{RA RB:yy}(hv:xf ⟨p,q⟩=ae)(h1:s6 p q.f (lO q.sd).gone=RA)(h2:s6 q p.f (lO p.sd).gone=RB):
  yN ⟨p,q⟩=⟨⟨⟨p.f,p.en,p.co,RA,(lO p.sd).s,M0 p.md q.co⟩,⟨q.f,q.en,q.co,RB,(lO q.sd).s,M0 q.md p.co⟩⟩,ae⟩:=by
 obtain⟨ha,hb⟩:=W4 hv
 have sa:=(dV ha).2.2.2.2
 have sb:=(dV hb).2.2.2.2
 have ea:lO p.sd=⟨(iu p.sd).1,(iu p.sd).2,ae⟩:=by unfold lO;rw[if_pos sa]
 have eb:lO q.sd=⟨(iu q.sd).1,(iu q.sd).2,ae⟩:=by unfold lO;rw[if_pos sb]
 rw[eb] at h1
 rw[ea] at h2
 rw[ea,eb]
 unfold yN
 rw[if_pos hv]
 simp only[vv,yQ]
 rw[h1,h2]
theorem YS{f:X4}(hv:ir p.rc=ae)(hg:g<0):s6 p f g=(A2 p.rc).r:=by
 unfold s6 oK A2
 rw[if_pos hg,if_pos hv]
theorem zdc{f:X4}(hv:ir p.rc=ae)(hm:5<=yI p.f.bits f.bits/\yI p.f.bits f.bits<=8)(hg:0<=g/\g<=255)(hc:rL p.f f=c):
  s6 p f g=(rN p.rc (aL.wrap (aZ aL.bits g &&& aZ aL.bits (aL.wrap (1*2 ^ (min (yI p.f.bits f.bits).toNat aL.bits))-1)).toNat,c)).r:=by
 subst hc
 rw[zbj hm,zne hm hg]
 have hb:=WK (a:=p.f) (b:=f) hg
 unfold s6 oK rN
 rw[if_neg (by omega),if_pos (by simp only[hv,zHU];exact hb)]
 rfl
theorem zhM{a' b' c':Int}(h:(!(decide (a=a') && (decide (b=b') && (decide (c=c') && ae))))=aa):rL ⟨a,b,c⟩ ⟨a',b',c'⟩=0:=by
 simp at h
 simp[rL,h]
theorem zhN{a' b' c':Int}(h:(!(decide (a=a') && (decide (b=b') && (decide (c=c') && ae))))=ae):rL ⟨a,b,c⟩ ⟨a',b',c'⟩=2:=by
 simp at h
 unfold rL
 rw[if_neg]
 intro e
 cases e
 simp at h
def AZ(x:yx):yx:=⟨(dA 40 ⟨yQ x.a.p x.b.p,x.a.tp,x.a.out,x.a.jW,x.a.lost⟩).1,(dA 40 ⟨yQ x.b.p x.a.p,x.b.tp,x.b.out,x.b.jW,x.b.lost⟩).1⟩
theorem tY{d:iY}{q:re}(h:jj d=ae)(hq:eS q=ae):jj ⟨yQ d.p q,d.tp,d.out,d.jW,d.lost⟩=ae:=by
 obtain⟨h1,h2,h3,h4,h5⟩:=fu h
 exact pV (XE h1 hq) h2 h3 h4 h5
theorem zrR{x:yx}(h:ov x=ae):x.a.p.f=x.b.p.f:=by
 simp only[ov,aE,decide_eq_true_eq] at h
 obtain⟨_,h1,h2,h3⟩:=h
 cases hx:x.a.p.f
 cases hy:x.b.p.f
 rw[hx,hy] at h1 h2 h3
 simp_all
theorem ziT{x:yx}(h1:jj x.a=ae)(h2:jj x.b=ae)(h3:x.a.p.f=x.b.p.f):ov x=ae:=by
 simp[ov,h1,h2,h3]
theorem Mn{x:yx}(h:ov x=ae):ov (AZ x)=ae:=by
 obtain⟨ha,hb⟩:=yZ h
 have pa:=(fu ha).1
 have pb:=(fu hb).1
 have va:=tY ha pb
 have vb:=tY hb pa
 obtain⟨a1,_,_,_,_,_,_,_,_,_,a11⟩:=QD 40 _ va (by have:=zbm va;omega)
 obtain⟨b1,_,_,_,_,_,_,_,_,_,b11⟩:=QD 40 _ vb (by have:=zbm vb;omega)
 exact ziT a1 b1 (a11.trans ((zrR h).trans b11.symm))
def vq:Nat->yx->yx
 |0,x=>x
 |n+1,x=>AZ (vq n x)
theorem Fo{x:yx}(h:ov x=ae):∀n,ov (vq n x)=ae
 |0=>h
 |n+1=>Mn (Fo h n)
def GJ(x:yx)(t:Int):SG:=if ov x=ae/\0<=t/\t<=150 then ⟨vq t.toNat x,ae⟩ else ⟨Yu,aa⟩
def zhW(x:yx):Prop:=wC x.a/\wC x.b
theorem WX{x:yx}(h:ov x=ae):zhW x:=⟨GV (yZ h).1,GV (yZ h).2⟩
theorem ziV(x:yx)(t:Int):zhW (GJ x t).l:=by
 unfold GJ
 split
 ·rename_i h
  exact WX (Fo h.1 _)
 ·exact⟨Hd,Hd⟩
theorem zw(x y:Int)(w:ai)(Su:Gw w):fV al.prog 148 #[.agg #[.int .i64 x,.int .i64 y]] w λ e w'=>e=.returned (.bool (xe (x,y)))/\cE w.heap.size w w':=by
 refine(BP ((x,y,()),()) (λ d=>d=.l (.v (.bool (xe (x,y))))) rfl w #[.agg #[.int .i64 x,.int .i64 y]] ⟨⟨_,rfl,rfl,rfl,trivial⟩,trivial⟩ Su).mono ?_
 rintro e w' ⟨d,u,rfl,rfl,hb,bs,h1,_⟩
 obtain⟨rfl,_⟩:=h1
 exact⟨rfl,hb⟩
theorem GL.look{w:ai}{B r:Nat}{l:List (Int×Int)}(h:GL w B r l):∃a b,w.heap[r]?=ab (.cells #[a,b,.int .i64 l.length] 193 (0,0)):=by
 obtain⟨ns,h1,_⟩:=h
 exact⟨_,_,h1⟩
theorem GL.drew{w:ai}{B r:Nat}{l:List (Int×Int)}(h:GL w B r l):GL w.drew B r l:=h.keep λ _ _ _=>rfl
theorem ZN(r t:Int)(v:aj)(l:List (Int×Int))(o:Bool)(a x y:Int)(w:ai)(hv:Sl w 2 v l.length (EL.bK l).enc)(hl:l.length<=1099511627776)(fc:ir ⟨r,t,l,o,a⟩=aa)(Su:Gw w):
  fV al.prog 79 #[.agg #[.int .i64 r,.int .i64 t,v,.bool o,.int .i64 a],.agg #[.int .i64 x,.int .i64 y]] w λ e w'=>e=.returned (.tuple #[.agg #[.int .i64 0,.int .i64 0,.slice ak 0 0,.bool aa,.int .i64 0],.bool aa])/\cE w.heap.size w w':=by
 have VK:=hid fc
 obtain⟨a0,cap,rfl,-⟩:=hv.form
 have HV:=hid hv
 clear hv fc
 go_enter al.func79,zq
 go_wp2_with fail
 refine(lg _ _ _ _ _ _ _ (HV.out.below (eA _ _ _ _)) hl (Su.below (eA _ _ _ _))).mono ?_
 rintro e w1 ⟨rfl,sS⟩
 rw[VK.out]
 obtain⟨k0,k1,k2,Sw,hB⟩:=E3 sS
 obtain⟨c2,f2⟩:=blk k2
 replace hB:=hid hB
 clear sS k0 k1 k2
 go_wp2
 exact dW (v:=.tuple #[.agg #[.int .i64 0,.int .i64 0,.slice ak 0 0,.bool aa,.int .i64 0],.bool aa]) (by simp[results,uy,go_sem,c2]) rfl ⟨rfl,(by repeat (first|(with_reducible exact dU (by assumption))|(with_reducible assumption)|(with_reducible exact bO _ _)|(with_reducible refine eL ?_ gO _)|(with_reducible refine dB ?_ gO _)|(with_reducible refine fZ ?_)|(with_reducible refine below_drewN ?_ _)|exact bO _ _|assumption|exact dU (by assumption)))⟩
theorem Xe(r t:Int)(v:aj)(l:List (Int×Int))(o:Bool)(a x y:Int)(w:ai)(hv:Sl w 2 v l.length (EL.bK l).enc)(hl:l.length<=1099511627776)(fc:ir ⟨r,t,l,o,a⟩=ae)(hg:xe (x,y)=aa)(Su:Gw w):
  fV al.prog 79 #[.agg #[.int .i64 r,.int .i64 t,v,.bool o,.int .i64 a],.agg #[.int .i64 x,.int .i64 y]] w λ e w'=>e=.returned (.tuple #[.agg #[.int .i64 0,.int .i64 0,.slice ak 0 0,.bool aa,.int .i64 0],.bool aa])/\cE w.heap.size w w':=by
 have VK:=hid fc
 have HG:=hid hg
 obtain⟨a0,cap,rfl,-⟩:=hv.form
 have HV:=hid hv
 clear hv fc hg
 go_enter al.func79,zq
 go_wp2_with fail
 refine(lg _ _ _ _ _ _ _ (HV.out.below (eA _ _ _ _)) hl (Su.below (eA _ _ _ _))).mono ?_
 rintro e w1 ⟨rfl,sS⟩
 rw[VK.out]
 obtain⟨k0,k1,k2,Sw,hB⟩:=E3 sS
 obtain⟨c1,f1⟩:=blk k1;replace k1:=hid k1
 replace k2:=hid k2
 replace hB:=hid hB
 clear sS k0
 go_wp2_with fail
 refine(zw _ _ _ trivial).mono ?_
 rintro e w2 ⟨rfl,kU⟩
 rw[HG.out]
 first|(replace k2:=hid (aK kU gO k2.out))|(replace k2:=hid (aK kU gO (bY k2.out)))
 replace hB:=hid (zFP hB.out kU)
 clear kU c1 f1 k1
 obtain⟨c2,f2⟩:=blk k2.out;have z2:=(ah.1 k2.out).1
 go_wp2
 exact dW (v:=.tuple #[.agg #[.int .i64 0,.int .i64 0,.slice ak 0 0,.bool aa,.int .i64 0],.bool aa]) (by simp[results,uy,go_sem,c2]) rfl ⟨rfl,(by repeat (first|(with_reducible exact dU (by assumption))|(with_reducible assumption)|(with_reducible exact bO _ _)|(with_reducible refine eL ?_ gO _)|(with_reducible refine dB ?_ gO _)|(with_reducible refine fZ ?_)|(with_reducible refine below_drewN ?_ _)|exact bO _ _|assumption|exact dU (by assumption)))⟩
theorem Xg(r t:Int)(v:aj)(l:List (Int×Int))(o:Bool)(a x y:Int)(w:ai)(hv:Sl w 2 v l.length (EL.bK l).enc)(hl:l.length<=100000)(fc:ir ⟨r,t,l,o,a⟩=ae)(hg:xe (x,y)=ae)(Pm:(l.length:Int)<r)(Su:Gw w):
  fV al.prog 79 #[.agg #[.int .i64 r,.int .i64 t,v,.bool o,.int .i64 a],.agg #[.int .i64 x,.int .i64 y]] w λ e w'=>∃a' c,e=.returned (.tuple #[.agg #[.int .i64 r,.int .i64 t,.slice a' (l++[(x,y)]).length c,.bool o,.int .i64 0],.bool ae])/\cE w.heap.size w w'/\kV w' w.heap.size (.slice a' (l++[(x,y)]).length c) (l++[(x,y)]):=by
 have VK:=hid fc
 have HG:=hid hg
 obtain⟨a0,cap,rfl,-⟩:=hv.form
 have HV:=hid hv
 have hl2:(l++[(x,y)]).length<=1099511627776:=by simp;omega
 clear hv fc hg
 go_enter al.func79,zq
 go_wp2_with fail
 refine(lg _ _ _ _ _ _ _ (HV.out.below (eA _ _ _ _)) (by omega) (Su.below (eA _ _ _ _))).mono ?_
 rintro e w1 ⟨rfl,sS⟩
 rw[VK.out]
 obtain⟨k0,k1,k2,Sw,hB⟩:=E3 sS
 have HI:=hid (HV.out.below hB)
 obtain⟨c1,f1⟩:=blk k1;replace k1:=hid k1
 replace k0:=hid k0
 replace k2:=hid k2
 replace hB:=hid hB
 clear sS
 go_wp2_with fail
 refine(zw _ _ _ trivial).mono ?_
 rintro e w2 ⟨rfl,kU⟩
 rw[HG.out]
 have HI2:=hid (HI.out.below kU)
 first|(replace k0:=hid (aK kU gO k0.out))|(replace k0:=hid (aK kU gO (bY k0.out)))
 first|(replace k1:=hid (aK kU gO k1.out))|(replace k1:=hid (aK kU gO (bY k1.out)))
 first|(replace k2:=hid (aK kU gO k2.out))|(replace k2:=hid (aK kU gO (bY k2.out)))
 replace hB:=hid (zFP hB.out kU)
 have OE:=kU.size
 clear kU c1 f1
 obtain⟨c0,f0⟩:=blk k0.out;have z0:=(ah.1 k0.out).1
 go_wp2_with fail
 refine(oJ _ l _ HI2.out (by omega)).mono ?_
 rintro e w3 ⟨rr,rfl,Gk,xc⟩
 have HR:=hid Gk
 obtain⟨ga,gb,hgr⟩:=Gk.look
 have hrr:=Gk.lt
 first|(replace k0:=hid (aK xc gO k0.out))|(replace k0:=hid (aK xc gO (bY k0.out)))
 first|(replace k1:=hid (aK xc gO k1.out))|(replace k1:=hid (aK xc gO (bY k1.out)))
 first|(replace k2:=hid (aK xc gO k2.out))|(replace k2:=hid (aK xc gO (bY k2.out)))
 replace hB:=hid (zFP hB.out xc)
 have hz3:=xc.size
 clear Gk xc c0 f0 z0
 obtain⟨c0,f0⟩:=blk k0.out;have z0:=(ah.1 k0.out).1
 obtain⟨c1,f1⟩:=blk k1.out;have z1:=(ah.1 k1.out).1
 obtain⟨c9,f9⟩:=blk hgr
 clear hgr
 go_wp2_with fail
 refine jL (λ _=>True) (.op 0 0 (.op 1 0 (.op 2 0 (.op 3 0 (.op 4 0 (.op 5 0 (.op 6 0 (.nil)))))))) gK rfl gK gK gK (λ _ _ d _ _ h=>by cases d<;>exact h) ?_
 go_wp2_with (first
  |(refine nz (by rfl) (by rfl) (by rfl) (by rfl) ?_;intro K hK)
  |(refine lz (by rfl) (by rfl) (by rfl) gK ?_;intro K hK)
  |(refine nt (k:=.i64) (by rfl) (by rfl) (by rfl) (by rfl) gK ?_;intro K hK)
  |(refine nv (by rfl) (by rfl) (by rfl) (by rfl) (by first|trivial|(simp;done)|(simp;omega)|omega) (by first|(simp[*];done)|go_simp) ?_;intro K hK)
  |(refine nu (by rfl) (by rfl) ?_;intro K hK)
  |(refine ny (by rfl) (by rfl) ?_)
  |(refine pU ?_))
 refine(Zi rr w2.heap.size l (x,y) _ (GL.drew HR.out) hz3 (by omega)).mono ?_
 rintro e w4 ⟨rfl,zq0,AH⟩
 obtain⟨m,hm⟩:∃m,m=l++[(x,y)]:=⟨_,rfl⟩
 rw[<-hm] at zq0 hl2
 have HM:=hid hm
 clear hm
 have HR4:=hid zq0
 replace k0:=hid (aK AH (by omega) (CO k0.out))
 replace k2:=hid (aK AH (by omega) (CO k2.out))
 have hz4:w3.heap.size<=w4.heap.size:=AH.size
 replace hB:=hid (hB.out.drew.trans (AH.mono (by omega)))
 clear zq0 AH c0 f0 z0 c9 f9
 go_wp2_with fail
 refine(za rr w2.heap.size m _ HR4.out hl2).mono ?_
 rintro e w5 ⟨a5,c5,rfl,dY,hb5⟩
 first|(replace k0:=hid (aK hb5 gO k0.out))|(replace k0:=hid (aK hb5 gO (bY k0.out)))
 first|(replace k2:=hid (aK hb5 gO k2.out))|(replace k2:=hid (aK hb5 gO (bY k2.out)))
 have hz5:=hb5.size
 replace hB:=hid (zFP hB.out hb5)
 have HO:=hid dY
 clear dY hb5
 obtain⟨c0,f0⟩:=blk k0.out;have z0:=(ah.1 k0.out).1
 clear f1 c1 z1
 go_upto_region 8 with fail
 clear c0 f0
 have q0:(w5.setCell ⟨w.heap.size,2,ak⟩ (.slice a5 m.length c5)).heap[w.heap.size]?=ab (.cells #[.int .i64 r,.int .i64 t,.slice a5 m.length c5,.bool o,.int .i64 a] 27 (0,0)):=by simpa using ml (o:=2) (v:=dj a5 m.length c5) k0.out
 replace k2:=hid (oM (p:=⟨w.heap.size,2,ak⟩) (v:=.slice a5 m.length c5) (by simp) k2.out)
 replace HO:=hid (HO.out.set (p:=⟨w.heap.size,2,ak⟩) (by simp;omega) (.slice a5 m.length c5))
 replace hB:=hid (hB.out.trans (nE w5 w.heap.size 2 (.slice a5 m.length c5)))
 have hz6:(w5.setCell ⟨w.heap.size,2,ak⟩ (.slice a5 m.length c5)).heap.size=w5.heap.size:=size_set _ _ _
 clear k0
 generalize w5.setCell ⟨w.heap.size,2,ak⟩ (.slice a5 m.length c5)=w6 at q0 k2 HO hB hz6 ⊢
 have k0:=hid q0
 clear q0
 obtain⟨c0,f0⟩:=blk k0.out;have z0:=(ah.1 k0.out).1
 go_upto_region 9 with fail
 clear c0 f0
 have q0:(w6.setCell ⟨w.heap.size,4,ak⟩ (.int .i64 0)).heap[w.heap.size]?=ab (.cells #[.int .i64 r,.int .i64 t,.slice a5 m.length c5,.bool o,.int .i64 0] 27 (0,0)):=by simpa using ml (o:=4) (v:=eE .i64 0) k0.out
 replace k2:=hid (oM (p:=⟨w.heap.size,4,ak⟩) (v:=.int .i64 0) (by simp) k2.out)
 replace HO:=hid (HO.out.set (p:=⟨w.heap.size,4,ak⟩) (by simp;omega) (.int .i64 0))
 replace hB:=hid (hB.out.trans (nE w6 w.heap.size 4 (.int .i64 0)))
 have hz7:(w6.setCell ⟨w.heap.size,4,ak⟩ (.int .i64 0)).heap.size=w6.heap.size:=size_set _ _ _
 clear k0
 generalize w6.setCell ⟨w.heap.size,4,ak⟩ (.int .i64 0)=w7 at q0 k2 HO hB hz7 ⊢
 have k0:=hid q0
 clear q0
 obtain⟨c0,f0⟩:=blk k0.out
 obtain⟨c2,f2⟩:=blk k2.out
 have z0:w.heap.size<w7.heap.size:=by omega
 have z2:w.heap.size+2<w7.heap.size:=by omega
 go_wp2
 obtain rfl:=HM.out
 exact dW (v:=.tuple #[.agg #[.int .i64 r,.int .i64 t,.slice a5 (l++[(x,y)]).length c5,.bool o,.int .i64 0],.bool ae]) (by simp[results,uy,go_sem,c2]) rfl ⟨_,_,rfl,(by repeat (first|(with_reducible exact dU (by assumption))|(with_reducible assumption)|(with_reducible exact bO _ _)|(with_reducible refine eL ?_ gO _)|(with_reducible refine dB ?_ gO _)|(with_reducible refine fZ ?_)|(with_reducible refine below_drewN ?_ _)|exact bO _ _|assumption|exact dU (by assumption))),kV.base (base:=w4.heap.size) (by repeat (first|(with_reducible exact HO.out)|(with_reducible refine kV.set ?_ (by simp;omega) _)|(with_reducible refine kV.drew ?_))) (by omega)⟩
theorem Xf(r t:Int)(v:aj)(l:List (Int×Int))(o:Bool)(a x y:Int)(w:ai)(hv:Sl w 2 v l.length (EL.bK l).enc)(hl:l.length<=100000)(fc:ir ⟨r,t,l,o,a⟩=ae)(hg:xe (x,y)=ae)(Pm:(l.length:Int)=r)(Su:Gw w):
  fV al.prog 79 #[.agg #[.int .i64 r,.int .i64 t,v,.bool o,.int .i64 a],.agg #[.int .i64 x,.int .i64 y]] w λ e w'=>∃a' c,e=.returned (.tuple #[.agg #[.int .i64 r,.int .i64 t,.slice a' l.length c,.bool ae,.int .i64 0],.bool ae])/\cE w.heap.size w w'/\kV w' w.heap.size (.slice a' l.length c) l:=by
 have VK:=hid fc
 have HG:=hid hg
 obtain⟨a0,cap,rfl,-⟩:=hv.form
 have HV:=hid hv
 have hl2:l.length<=1099511627776:=by omega
 clear hv fc hg
 go_enter al.func79,zq
 go_wp2_with fail
 refine(lg _ _ _ _ _ _ _ (HV.out.below (eA _ _ _ _)) (by omega) (Su.below (eA _ _ _ _))).mono ?_
 rintro e w1 ⟨rfl,sS⟩
 rw[VK.out]
 obtain⟨k0,k1,k2,Sw,hB⟩:=E3 sS
 have HI:=hid (HV.out.below hB)
 obtain⟨c1,f1⟩:=blk k1;replace k1:=hid k1
 replace k0:=hid k0
 replace k2:=hid k2
 replace hB:=hid hB
 clear sS
 go_wp2_with fail
 refine(zw _ _ _ trivial).mono ?_
 rintro e w2 ⟨rfl,kU⟩
 rw[HG.out]
 have HI2:=hid (HI.out.below kU)
 first|(replace k0:=hid (aK kU gO k0.out))|(replace k0:=hid (aK kU gO (bY k0.out)))
 first|(replace k1:=hid (aK kU gO k1.out))|(replace k1:=hid (aK kU gO (bY k1.out)))
 first|(replace k2:=hid (aK kU gO k2.out))|(replace k2:=hid (aK kU gO (bY k2.out)))
 replace hB:=hid (zFP hB.out kU)
 have OE:=kU.size
 clear kU c1 f1
 obtain⟨c0,f0⟩:=blk k0.out;have z0:=(ah.1 k0.out).1
 go_wp2_with fail
 refine(oJ _ l _ HI2.out (by omega)).mono ?_
 rintro e w3 ⟨rr,rfl,Gk,xc⟩
 have HR:=hid Gk
 obtain⟨ga,gb,hgr⟩:=Gk.look
 have hrr:=Gk.lt
 first|(replace k0:=hid (aK xc gO k0.out))|(replace k0:=hid (aK xc gO (bY k0.out)))
 first|(replace k1:=hid (aK xc gO k1.out))|(replace k1:=hid (aK xc gO (bY k1.out)))
 first|(replace k2:=hid (aK xc gO k2.out))|(replace k2:=hid (aK xc gO (bY k2.out)))
 replace hB:=hid (zFP hB.out xc)
 have hz3:=xc.size
 clear Gk xc c0 f0 z0
 obtain⟨c0,f0⟩:=blk k0.out;have z0:=(ah.1 k0.out).1
 obtain⟨c1,f1⟩:=blk k1.out;have z1:=(ah.1 k1.out).1
 obtain⟨c9,f9⟩:=blk hgr
 clear hgr
 go_wp2_with fail
 refine jL (λ _=>True) (.op 0 0 (.op 1 0 (.op 2 0 (.op 3 0 (.op 4 0 (.op 5 0 (.op 6 0 (.nil)))))))) gK rfl gK gK gK (λ _ _ d _ _ h=>by cases d<;>exact h) ?_
 go_wp2_with (first
  |(refine nz (by rfl) (by rfl) (by rfl) (by rfl) ?_;intro K hK)
  |(refine lz (by rfl) (by rfl) (by rfl) gK ?_;intro K hK)
  |(refine nt (k:=.i64) (by rfl) (by rfl) (by rfl) (by rfl) gK ?_;intro K hK)
  |(refine nv (by rfl) (by rfl) (by rfl) (by rfl) (by first|trivial|(simp;done)|(simp;omega)|omega) (by first|(simp[*];done)|go_simp) ?_;intro K hK)
  |(refine nu (by rfl) (by rfl) ?_;intro K hK)
  |(refine ny (by rfl) (by rfl) ?_)
  |(refine pU ?_))
 go_upto_region 7 with fail
 have q0:(w3.setCell ⟨w.heap.size,3,ak⟩ (.bool ae)).drew.heap[w.heap.size]?=ab (.cells #[.int .i64 r,.int .i64 t,.slice a0 l.length cap,.bool ae,.int .i64 a] 27 (0,0)):=by simpa using CO (ml (o:=3) (v:=Value.bool ae) k0.out)
 replace k2:=hid (CO (oM (p:=⟨w.heap.size,3,ak⟩) (v:=.bool ae) (by simp) k2.out))
 have HR4:=hid (GL.keep (w':=(w3.setCell ⟨w.heap.size,3,ak⟩ (.bool ae)).drew) HR.out (λ b hb _=>heap_setCell_other w3 ⟨w.heap.size,3,ak⟩ b (.bool ae) (by simp;omega)))
 replace hB:=hid ((hB.out.trans (nE w3 w.heap.size 3 (.bool ae))).drew)
 have hz4:(w3.setCell ⟨w.heap.size,3,ak⟩ (.bool ae)).drew.heap.size=w3.heap.size:=size_set _ _ _
 clear k0 c0 f0 z0 c9 f9
 generalize (w3.setCell ⟨w.heap.size,3,ak⟩ (.bool ae)).drew=w4 at q0 k2 HR4 hB hz4 ⊢
 have k0:=hid q0
 clear q0
 go_wp2_with fail
 refine(za rr w2.heap.size l _ HR4.out hl2).mono ?_
 rintro e w5 ⟨a5,c5,rfl,dY,hb5⟩
 first|(replace k0:=hid (aK hb5 gO k0.out))|(replace k0:=hid (aK hb5 gO (bY k0.out)))
 first|(replace k2:=hid (aK hb5 gO k2.out))|(replace k2:=hid (aK hb5 gO (bY k2.out)))
 have hz5:=hb5.size
 replace hB:=hid (zFP hB.out hb5)
 have HO:=hid dY
 clear dY hb5
 obtain⟨c0,f0⟩:=blk k0.out;have z0:=(ah.1 k0.out).1
 clear f1 c1 z1
 go_upto_region 8 with fail
 clear c0 f0
 have q0:(w5.setCell ⟨w.heap.size,2,ak⟩ (.slice a5 l.length c5)).heap[w.heap.size]?=ab (.cells #[.int .i64 r,.int .i64 t,.slice a5 l.length c5,.bool ae,.int .i64 a] 27 (0,0)):=by simpa using ml (o:=2) (v:=dj a5 l.length c5) k0.out
 replace k2:=hid (oM (p:=⟨w.heap.size,2,ak⟩) (v:=.slice a5 l.length c5) (by simp) k2.out)
 replace HO:=hid (HO.out.set (p:=⟨w.heap.size,2,ak⟩) (by simp;omega) (.slice a5 l.length c5))
 replace hB:=hid (hB.out.trans (nE w5 w.heap.size 2 (.slice a5 l.length c5)))
 have hz6:(w5.setCell ⟨w.heap.size,2,ak⟩ (.slice a5 l.length c5)).heap.size=w5.heap.size:=size_set _ _ _
 clear k0
 generalize w5.setCell ⟨w.heap.size,2,ak⟩ (.slice a5 l.length c5)=w6 at q0 k2 HO hB hz6 ⊢
 have k0:=hid q0
 clear q0
 obtain⟨c0,f0⟩:=blk k0.out;have z0:=(ah.1 k0.out).1
 go_upto_region 9 with fail
 clear c0 f0
 have q0:(w6.setCell ⟨w.heap.size,4,ak⟩ (.int .i64 0)).heap[w.heap.size]?=ab (.cells #[.int .i64 r,.int .i64 t,.slice a5 l.length c5,.bool ae,.int .i64 0] 27 (0,0)):=by simpa using ml (o:=4) (v:=eE .i64 0) k0.out
 replace k2:=hid (oM (p:=⟨w.heap.size,4,ak⟩) (v:=.int .i64 0) (by simp) k2.out)
 replace HO:=hid (HO.out.set (p:=⟨w.heap.size,4,ak⟩) (by simp;omega) (.int .i64 0))
 replace hB:=hid (hB.out.trans (nE w6 w.heap.size 4 (.int .i64 0)))
 have hz7:(w6.setCell ⟨w.heap.size,4,ak⟩ (.int .i64 0)).heap.size=w6.heap.size:=size_set _ _ _
 clear k0
 generalize w6.setCell ⟨w.heap.size,4,ak⟩ (.int .i64 0)=w7 at q0 k2 HO hB hz7 ⊢
 have k0:=hid q0
 clear q0
 obtain⟨c0,f0⟩:=blk k0.out
 obtain⟨c2,f2⟩:=blk k2.out
 have z0:w.heap.size<w7.heap.size:=by omega
 have z2:w.heap.size+2<w7.heap.size:=by omega
 go_wp2
 exact dW (v:=.tuple #[.agg #[.int .i64 r,.int .i64 t,.slice a5 l.length c5,.bool ae,.int .i64 0],.bool ae]) (by simp[results,uy,go_sem,c2]) rfl ⟨_,_,rfl,(by repeat (first|(with_reducible exact dU (by assumption))|(with_reducible assumption)|(with_reducible exact bO _ _)|(with_reducible refine eL ?_ gO _)|(with_reducible refine dB ?_ gO _)|(with_reducible refine fZ ?_)|(with_reducible refine below_drewN ?_ _)|exact bO _ _|assumption|exact dU (by assumption))),kV.base (base:=w4.heap.size) (by repeat (first|(with_reducible exact HO.out)|(with_reducible refine kV.set ?_ (by simp;omega) _)|(with_reducible refine kV.drew ?_))) (by omega)⟩
theorem Tc:ji al.prog 79 [.inr [.int,.int,.bK,.bool,.int],.inr [.int,.int]] (λ⟨⟨r,t,l,o,a,_⟩,⟨x,y,_⟩,_⟩ K=>K (rN ⟨r,t,l,o,a⟩ (x,y)).d):=by
 rintro⟨⟨r,t,l,o,a,_⟩,⟨x,y,_⟩,_⟩ K hK w vs hr Su
 replace hK:K (rN ⟨r,t,l,o,a⟩ (x,y)).d:=hK
 obtain⟨v,rfl,hv,hl⟩:∃v,vs=#[.agg #[.int .i64 r,.int .i64 t,v,.bool o,.int .i64 a],.agg #[.int .i64 x,.int .i64 y]]/\Sl w 2 v l.length (EL.bK l).enc/\l.length<=1099511627776:=by
  cases yB:vs.toList with
  |nil=>rw[yB] at hr;exact hr.elim
  |cons z rest=>
   rw[yB] at hr
   match rest,hr with
   |[z2],⟨⟨us,ex,hu⟩,⟨us2,ex2,hu2⟩,_⟩=>
    subst ex ex2
    obtain⟨v,e,h1,h2⟩:=W6 hu
    have e2:us2.toList=[.int .i64 x,.int .i64 y]:=by
     generalize us2.toList=q at hu2
     match q,hu2 with
     |[q1,q2],⟨g1,g2,_⟩=>rw[show q1=_ from g1,show q2=_ from g2]
    exact⟨v,bk.1 (by rw[yB,show us=#[.int .i64 r,.int .i64 t,v,.bool o,.int .i64 a] from bk.1 e,show us2=#[.int .i64 x,.int .i64 y] from bk.1 e2]),h1,h2⟩
 have LL:∀(w':ai),cE w.heap.size w w'->rN ⟨r,t,l,o,a⟩ (x,y)=⟨JE,aa⟩->∃d v,oP (.tuple #[.agg #[.int .i64 0,.int .i64 0,.slice ak 0 0,.bool aa,.int .i64 0],.bool aa])=.returned v/\K d/\cE w.heap.size w w'/\∃bs,frV w' w.heap.size d v bs/\bs.Nodup:=by
  intro w' hb he
  rw[he] at hK
  exact⟨_,_,rfl,hK,hb,[],⟨_,rfl,[],[],rfl,⟨_,rfl,[],[],rfl,⟨rfl,rfl,rfl⟩,[],[],rfl,⟨rfl,rfl,rfl⟩,[],[],rfl,⟨World.ownsRow_nil _ _ _ _,bw _,rfl⟩,[],[],rfl,⟨rfl,rfl,rfl⟩,[],[],rfl,⟨rfl,rfl,rfl⟩,rfl⟩,
   [],[],rfl,⟨rfl,rfl,rfl⟩,rfl⟩,List.nodup_nil⟩
 have zpe:∀(w':ai) (a':Option Addr) (c:Nat) (m:List (Int×Int)) (o':Bool),cE w.heap.size w w'->kV w' w.heap.size (.slice a' m.length c) m->m.length<=1099511627776->rN ⟨r,t,l,o,a⟩ (x,y)=⟨⟨r,t,m,o',0⟩,ae⟩->
   ∃d v,oP (.tuple #[.agg #[.int .i64 r,.int .i64 t,.slice a' m.length c,.bool o',.int .i64 0],.bool ae])=.returned v/\K d/\cE w.heap.size w w'/\∃bs,frV w' w.heap.size d v bs/\bs.Nodup:=by
  intro w' a' c m o' hb ho hm he
  rw[he] at hK
  exact⟨_,_,rfl,hK,hb,(dj a' m.length c).ownBlock.toList,⟨_,rfl,(dj a' m.length c).ownBlock.toList,[],(eO _).symm,⟨_,rfl,[],_,rfl,⟨rfl,rfl,rfl⟩,[],_,rfl,⟨rfl,rfl,rfl⟩,_,[],(eO _).symm,⟨ho,hm,rfl⟩,[],[],rfl,⟨rfl,rfl,rfl⟩,[],[],rfl,⟨rfl,rfl,rfl⟩,rfl⟩,
    [],[],rfl,⟨rfl,rfl,rfl⟩,rfl⟩,by cases (dj a' m.length c).ownBlock<;>simp⟩
 cases fc:ir ⟨r,t,l,o,a⟩ with
 |false=>
  refine(ZN r t v l o a x y w hv hl fc Su).mono ?_
  rintro e w' ⟨rfl,hb⟩
  exact LL w' hb (by simp[rN,fc])
 |true=>
  have Uz:=oN fc
  dsimp only at Uz
  cases hg:xe (x,y) with
  |false=>
   refine(Xe r t v l o a x y w hv hl fc hg Su).mono ?_
   rintro e w' ⟨rfl,hb⟩
   exact LL w' hb (by simp[rN,fc,hg])
  |true=>
   by_cases Pm:(l.length:Int)<r
   ·refine(Xg r t v l o a x y w hv (by omega) fc hg Pm Su).mono ?_
    rintro e w' ⟨a',c,rfl,hb,ho⟩
    exact zpe w' a' c _ o hb ho (by simp;omega) (by simp[rN,fc,hg,LN,Pm])
   ·refine(Xf r t v l o a x y w hv (by omega) fc hg (by omega) Su).mono ?_
    rintro e w' ⟨a',c,rfl,hb,ho⟩
    exact zpe w' a' c _ ae hb ho (by omega) (by simp[rN,fc,hg,LN,Pm])
def LX:CS:=dn [.inr [.int,.int,.bK,.bool,.int],.inr [.int,.int]] (λ⟨⟨r,t,l,o,a,_⟩,⟨x,y,_⟩,_⟩ K=>K (rN ⟨r,t,l,o,a⟩ (x,y)).d)
theorem QO:bW al.prog 79 LX:=bH Tc
end
section
open Go.RowKit
namespace Ab
section
variable{P:aG}{Q:Exit->Act->ai->Prop}{a:Act}{w:ai}{ops:Array di}
def Ct(P:aG)(c:gZ)(Q:Exit->Act->ai->Prop)(a:Act)(w:ai):Prop:=
 ∀(b:aB) (k:List Item) (cs:List aB),b.kind=.normal->∃e a' w',Q e a' w'/\Arrives P (lone (b.at a (.code c::k)) cs w) b k cs e a' w'
variable{c:gZ}
theorem Ct.of_wp(h:c.wp P Q a w):Ct P c Q a w:=λ b k cs _=>h b k cs
theorem Ct.mono{Q':Exit->Act->ai->Prop}(h:Ct P c Q a w)(hq:∀e a w,Q e a w->Q' e a w):Ct P c Q' a w:=λ b k cs hb=>
 let ⟨e,a',w',q,r⟩:=h b k cs hb
 ⟨e,a',w',hq _ _ _ q,r⟩
theorem Ct.seq{c d:gZ}(h:Ct P c (λ e a w=>(e=.normal/\Ct P d Q a w)\/(e=.ret/\Q .ret a w)) a w):Ct P (.seq c d) Q a w:=by
 intro b k cs hb
 obtain⟨e,a1,w1,hq,sY⟩:=h b (.code d::k) cs hb
 rcases hq with⟨rfl,hq⟩|⟨rfl,hq⟩
 ·obtain⟨e2,a2,w2,hq2,zvB⟩:=hq b k cs hb
  exact⟨e2,a2,w2,hq2,.of_steps (.head step_seq sY) zvB⟩
 ·exact⟨.ret,a1,w1,hq,.of_steps (e:=.ret) (.one step_seq) sY⟩
theorem Ct.skip(h:Q .normal a w):Ct P .skip Q a w:=.of_wp (wp_skip h)
theorem Ct.cond{c:Operand}{x y:gZ}{t:Bool}(hc:a.eval c=.bool t)(hT:t=ae->Ct P x Q a w)(hF:t=aa->Ct P y Q a w):Ct P (.cond c x y) Q a w:=by
 intro b k cs hb
 cases t with
 |true=>
  obtain⟨e,a',w',q,r⟩:=hT rfl b k cs hb
  exact⟨e,a',w',q,.of_steps (.one (step_cond hc)) r⟩
 |false=>
  obtain⟨e,a',w',q,r⟩:=hF rfl b k cs hb
  exact⟨e,a',w',q,.of_steps (.one (step_cond hc)) r⟩
def pN(P:aG)(ops:Array di)(Q:Exit->Act->ai->Prop)(l:List Nat)(a:Act)(w:ai):Prop:=
 ∀(b:aB) (k:List Item) (cs:List aB),b.kind=.normal->∃e a' w',Q e a' w'/\Arrives P (lone (b.at a (.inRegion ops l::k)) cs w) b k cs e a' w'
theorem Ct.region{id:Nat}(h:pN P ops Q (oY ops.size) a w):Ct P (.region id ops aa) Q a w:=λ b k cs hb=>
 let ⟨e,a',w',q,r⟩:=h b k cs hb
 ⟨e,a',w',q,.of_steps (.one step_region) r⟩
theorem pN.zbg{l:List Nat}(h:wpOps P ops Q l a w):pN P ops Q l a w:=λ b k cs _=>wp_ops l a w h b k cs
theorem pN.value{i:Nat}{rest:List Nat}{o:di}{v:aj}{w':ai}(ho:ops[i]?=ab o)(hg:o.guard=ak)(hr:(bd a.eval o).run P w=.ok (.value v) w')(h:pN P ops Q rest (a.put o.dst v) w'):pN P ops Q (i::rest) a w:=by
 intro b k cs hb
 obtain⟨e,a',w2,hq,sY⟩:=h b k cs hb
 refine⟨e,a',w2,hq,.of_steps (.one (fR ?_)) sY⟩
 have oV:=eN b a ops i rest k v
 rw[ho] at oV
 have oV:(b.at a (.inRegion ops (i::rest)::k)).finish v=b.at (a.put o.dst v) (.inRegion ops rest::k):=oV
 rw[stepG_op ho (by simp[aR,hg]),<-oV]
 simp[dR,hr]
theorem pN.defer{i:Nat}{rest:List Nat}{o:di}{d:eH}{w':ai}(ho:ops[i]?=ab o)(hg:o.guard=ak)(hr:(bd a.eval o).run P w=.ok (.defer d) w')(h:pN P ops Q rest ({ a with defers:=d::a.defers }.put o.dst undef) w'):pN P ops Q (i::rest) a w:=by
 intro b k cs hb
 obtain⟨e,a',w2,hq,sY⟩:=h b k cs hb
 refine⟨e,a',w2,hq,.of_steps (.one (fR ?_)) sY⟩
 have oV:=eN b { a with defers:=d::a.defers } ops i rest k undef
 rw[ho] at oV
 have oV:({ b.at a (.inRegion ops (i::rest)::k) with defers:=d::a.defers }:aB).finish undef=b.at ({ a with defers:=d::a.defers }.put o.dst undef) (.inRegion ops rest::k):=oV
 rw[stepG_op ho (by simp[aR,hg])]
 simp only[dR,Sem.runT_eq,hr,GStep.bare_after]
 exact congrArg (λ fr=>GStep.go { frame:=fr,callers:=cs,status:=.running,dying:=ak } w') oV
theorem pN.send{i:Nat}{rest:List Nat}{o:di}{x y:Operand}{c cap s r:Nat}{v:aj}{buf:Array aj}{tm:Bool}(ho:ops[i]?=ab o)(hg:o.guard=ak)(cM:o.op=.send x y)(hx:a.eval x=.chan (ab c))(hy:a.eval y=v)
  (hc:w.heap[c]?=ab (.chan cap buf aa s r tm)) (Pm:buf.size<cap) (h:pN P ops Q rest (a.put o.dst undef) (w.setChan c cap (buf.push v) aa (s+1) r tm)):pN P ops Q (i::rest) a w:=by
 intro b k cs hb
 obtain⟨e,a',w2,hq,sY⟩:=h b k cs hb
 refine⟨e,a',w2,hq,.of_steps (.one ?_) sY⟩
 have h1:=Go.Conc.step_lone_send_room (P:=P) (fr:=b.at a (.inRegion ops (i::rest)::k)) (cs:=cs) (w:=w) (c:=c) (cap:=cap) (buf:=buf) (s:=s) (r:=r) (v:=v) (z':=.tuple #[]) (tm:=tm)
  (Go.Conc.stepG_comm (cases:=#[Go.Conc.scase c v (.tuple #[])]) (blocking:=ae) (shape:=.send) (w':=w) ho (by simp[aR,hg]) (by simp[hb]) (by simp[bd,cM,hx,hy,Go.Conc.scase])) hc Pm
 have oV:=eN b a ops i rest k undef
 rw[ho] at oV
 rw[oV] at h1
 exact h1
theorem pN.recv{i:Nat}{rest:List Nat}{o:di}{c cap s r:Nat}{z v:aj}{buf:Array aj}{tm closed:Bool}(ho:ops[i]?=ab o)(hg:o.guard=ak)(hr:(bd a.eval o).run P w=.ok (.comm #[Go.Conc.rcase c z] ae (.recv ae)) w)
  (hc:w.heap[c]?=ab (.chan cap buf closed s r tm)) (zvL:0<buf.size) (hv:buf.getD 0 undef=v) (h:pN P ops Q rest (a.put o.dst (.tuple #[v,.bool ae])) (w.setChan c cap (buf.extract 1 buf.size) closed s (r+1) tm)):pN P ops Q (i::rest) a w:=by
 intro b k cs hb
 obtain⟨e,a',w2,hq,sY⟩:=h b k cs hb
 refine⟨e,a',w2,hq,.of_steps (.one ?_) sY⟩
 have h1:=Go.Conc.step_lone_recv_buf (P:=P) (fr:=b.at a (.inRegion ops (i::rest)::k)) (cs:=cs) (w:=w) (c:=c) (cap:=cap) (buf:=buf) (closed:=closed) (s:=s) (r:=r) (z:=z) (tm:=tm) ae
  (Go.Conc.stepG_comm (cases:=#[Go.Conc.rcase c z]) (blocking:=ae) (shape:=.recv ae) (w':=w) ho (by simp[aR,hg]) (by simp[hb]) hr) hc zvL
 have oV:=eN b a ops i rest k (Go.Conc.got ae (buf.getD 0 undef) ae)
 rw[ho] at oV
 rw[oV,hv] at h1
 exact h1
theorem pN.zvX{i:Nat}{rest:List Nat}{o:di}{c cap s r:Nat}{z:aj}{tm:Bool}(ho:ops[i]?=ab o)(hg:o.guard=ak)(hr:(bd a.eval o).run P w=.ok (.comm #[Go.Conc.rcase c z] ae (.recv ae)) w)
  (hc:w.heap[c]?=ab (.chan cap #[] ae s r tm)) (h:pN P ops Q rest (a.put o.dst (.tuple #[z,.bool aa])) w):pN P ops Q (i::rest) a w:=by
 intro b k cs hb
 obtain⟨e,a',w2,hq,sY⟩:=h b k cs hb
 refine⟨e,a',w2,hq,.of_steps (.one ?_) sY⟩
 have h1:=Go.Conc.step_lone_recv_shut (P:=P) (fr:=b.at a (.inRegion ops (i::rest)::k)) (cs:=cs) (w:=w) (c:=c) (cap:=cap) (s:=s) (r:=r) (z:=z) (tm:=tm) ae
  (Go.Conc.stepG_comm (cases:=#[Go.Conc.rcase c z]) (blocking:=ae) (shape:=.recv ae) (w':=w) ho (by simp[aR,hg]) (by simp[hb]) hr) hc
 have oV:=eN b a ops i rest k (Go.Conc.got ae z aa)
 rw[ho] at oV
 rw[oV] at h1
 exact h1
theorem zcc{fr:aB}{cs:List aB}{d:eH}{ds:List eH}{bi:Builtin}{qv:Array au}{ty:au}{cn:Array Bool}{u:aj}{w':ai}(hm:fr.mode=.returning)(hd:fr.defers=d::ds)(ht:d.target=.builtin bi qv ty cn)
  (hi:(invoke d.target d.args).run P w=.ok (.value u) w'):step P (lone fr cs w)=.next (lone { fr with defers:=ds } cs w'):=by
 obtain⟨t,av⟩:=d
 dsimp only at ht hi
 subst ht
 exact fR (by simp[stepG,unwind,callDeferred,hm,hd,hi])
def zc5(P:aG)(fn:fI)(R:Ending->ai->Prop)(e:Exit)(a:Act)(w:ai):Prop:=e=.ret/\((a.defers=[]/\∃v,(results fn a.tmps).run P w=.ok v w/\R (.returned v) w)\/
 ∃d bi qv ty cn u w',a.defers=[d]/\d.target=.builtin bi qv ty cn/\(invoke d.target d.args).run P w=.ok (.value u) w'/\∃v,(results fn a.tmps).run P w'=.ok v w'/\R (.returned v) w')
theorem H4{f:ck}{fn:fI}{args:Array aj}{R:Ending->ai->Prop}(hf:P.funcs[f]?=ab fn)(hb:fn.body=ab c)
  (h:Ct P c (zc5 P fn R) { tmps:=args++cU (fn.ntmps-args.size) undef,defers:=[] } w):fV P f args w R:=by
 intro cs
 have yL:aU P f args .normal=({ (default:aB) with fn:=f,kind:=.normal }:aB).at { tmps:=args++cU (fn.ntmps-args.size) undef,defers:=[] } [.code c]:=by
  simp[aU,Frame.at,hf,hb]
 obtain⟨e,a',w',hq,sY⟩:=h { (default:aB) with fn:=f,kind:=.normal } [] cs rfl
 rw[<-yL] at sY
 obtain⟨rfl,hq⟩:=hq
 obtain⟨todo,hs⟩:=sY
 rcases hq with⟨hd,v,hr,hR⟩|⟨d,bi,qv,ty,cn,u,w2,hd,ht,hi,v,hr,hR⟩
 ·exact⟨.returned v,w',_,hR,hs,rfl,rfl,hd,rfl,fn,hf,hr⟩
 ·exact⟨.returned v,w2,_,hR,Steps.trans hs (.one (zcc (d:=d) rfl hd ht hi)),rfl,rfl,rfl,rfl,fn,hf,hr⟩
end
theorem Ha{cx:Cx}{β:List En}{hp:Hp}{w:ai}(hI:Inv cx β hp w){k n:Nat}{Φ Ψ:Obj->Prop}{ob:Obj}(h1:hp[k]?=ab (.x Φ))(h2:β[k]?=ab (.b n))(hΨ:Ψ ob)(hc:∀c e f,w.heap[n]?≠ab (.cells c e f)):
  Out cx β hp w (λ _=>True) β (hp.set k (.x Ψ)) { w with heap:=w.heap.setIfInBounds n ob }:=by
 have hk:k<hp.length:=(aO.1 h1).1
 obtain⟨hn,ob0,h3,_⟩:=hI.OZ k _ _ h1 h2
 have cj:n<w.heap.size:=(ah.1 h3).1
 refine Out.upd (k0:=k) (h':=.x Ψ) (e':=.b n) hI trivial ⟨rfl,rfl,rfl,by simp,λ b hb hnb=>?_,λ b ⟨c,e,f,hr⟩=>⟨c,e,f,by
  have fh:n≠b:=λ e1=>by
   subst e1
   exact hc c e f hr
  simpa [bt fh] using hr⟩⟩ (λ i hi=>⟨cd (dr hi),rfl⟩) (by simp[hk]) h2 (by simpa using hI.len) (by simp) (Ext.refl _) ⟨hn,ob,by simp[cj],hΨ⟩ (λ b hb=>.inl ?_)
 ·have:n≠b:=λ e=>hnb (by rw[ownB_of h1 h2,e];rfl)
  simp[bt this]
 ·rw[ownB_of h1 h2]
  exact hb
end Ab
open Go.RowKit
namespace Ab
def zqU(T:oU)(G:Env)(TR:Nat->Tr)(fn:fI)(E:gZ)(N k:Nat)(L:List Int)(fr:Fr)(hp:Hp)(K:AV->Hp->Prop):Prop:=DI T G N [] TR E fr hp λ e fr7 hp7=>match e with
 |.n=>False
 |.x _=>False
 |.r=>wu hp7 k λ h=>match h with
  |.x Φ=>az (∀o,Φ o->zO L aa o) <| E1 hp7 k (.x (zO L ae)) λ hp8=>Wb T fr7 hp8 fn.results.toList λ r=>K r hp8
  |_=>False
def zzH(hp:Hp)(k:Nat)(fr:Fr)(K:Int->Fr->Hp->Prop):Prop:=Jz fr 1 λ c=>match c with
 |.l (.o ak k')=>az (Nat.beq k' k=ae) <| JF fr 17 c λ fr5=>Jz fr5 6 λ b=>match b with
  |.l (.v (.int .i64 x))=>JF fr5 18 b λ fr6=>wu hp k λ h=>match h with
   |.x Φ=>az (∀o,Φ o->zO [] aa o) <| E1 hp k (.x (zO [x] aa)) λ hp6=>K x fr6 hp6
   |_=>False
  |_=>False
 |_=>False
def zpd(T:oU)(G:Env)(TR:Nat->Tr)(fn:fI)(r0 r2 r3 E:gZ)(xs:List AV)(hp:Hp)(K:AV->Hp->Prop):Prop:=az (hY xs.length fn.ntmps=ae) <| JD (SO hp) λ N=>
 DI T G N [] TR r0 (C8 fn.ntmps xs) hp λ e fr1 ku=>match e with
 |.x _=>False
 |.r=>False
 |.n=>Jz fr1 1 λ c=>match c with
  |.l (.o ak k)=>wu hp k λ h0=>match h0 with
   |.x _=>JF fr1 8 c λ EP=>DI T G N [] TR r2 EP ku λ e fr3 VU=>match e with
    |.x _=>False
    |.r=>False
    |.n=>DI T G N [] TR r3 fr3 VU λ e fr4 hp4=>match e with
     |.x _=>False
     |.r=>False
     |.n=>Jz fr4 16 λ t=>match t with
      |.l (.v (.bool t))=>Br t (zzH hp4 k fr4 λ x fr6 hp6=>zqU T G TR fn E N k [x] fr6 hp6 K) (zqU T G TR fn E N k [] fr4 hp4 K)
      |_=>False
   |_=>False
  |_=>False
def zv4(hp:Hp)(fr:Fr)(K:Fr->Hp->Prop):Prop:=Jz fr 3 λ c=>match c with
 |.l (.o ak k)=>JF fr 17 c λ EP=>wu hp k λ h=>match h with
  |.x Φ=>∃l:Option Int,(∀o,Φ o->zO l.toList ae o)/\match l with
   |some x=>JF EP 18 (.t [.inl (.v (.int .i64 x)),.inl (.v (.bool ae))]) λ fr3=>E1 hp k (.x (zO [] ae)) λ VU=>K fr3 VU
   |none=>JF EP 18 (.t [.inl (.v (.int .i64 0)),.inl (.v (.bool aa))]) λ fr3=>E1 hp k (.x (zO [] ae)) λ VU=>K fr3 VU
  |_=>False
 |_=>False
def zo9(T:oU)(G:Env)(TR:Nat->Tr)(fn:fI)(r0 E:gZ)(ops:Array di)(xs:List AV)(hp:Hp)(K:AV->Hp->Prop):Prop:=az (hY xs.length fn.ntmps=ae) <| JD (SO hp) λ N=>
 DI T G N [] TR r0 (C8 fn.ntmps xs) hp λ e fr1 ku=>match e with
 |.x _=>False
 |.r=>False
 |.n=>zv4 ku fr1 λ fr3 VU=>zrf T G ops.toList (ops.toList.drop 2) fr3 VU λ fr4 hp4=>DI T G N [] TR E fr4 hp4 λ e fr5 hp5=>match e with
  |.n=>False
  |.x _=>False
  |.r=>Wb T fr5 hp5 fn.results.toList λ r=>K r hp5
section
variable{P:aG}{cx:Cx}{β0:List En}{hp0:Hp}{w0:ai}
variable{w:ai}{n:Nat}
theorem YT{xs:List AV}{vs:Array aj}(hI:Inv cx β0 hp0 w)(ha:Uv cx β0 xs vs.toList)(hn:xs.length<=n):At cx β0 hp0 w [] (C8 n xs) hp0 { tmps:=vs++cU (n-vs.size) undef,defers:=[] } w:=by
 have hl:xs.length=vs.size:=by rw[ha.length];simp
 refine⟨β0,hI,⟨?_,λ i x hi=>?_⟩,rfl,⟨λ k e _ he=>?_,λ k b hb=>?_,aA _,aA _,λ _ _ _=>rfl⟩⟩
 ·rw[G4 _ _ hn];simp;omega
 ·rcases G3 _ _ i x hi with h1|rfl
  ·obtain⟨v,h2,h3⟩:=ha.get h1
   have cj:i<vs.size:=by
    have:=(aO.1 h2).1
    simpa using this
   have:(vs++cU (n-vs.size) undef).getD i undef=v:=by
    have h4:vs[i]?=ab v:=by simpa using h2
    simp[bS,Array.getElem?_append_left cj,h4]
   show AC cx β0 x ((vs++cU (n-vs.size) undef).getD i undef)
   rw[this]
   exact h3
  ·trivial
 ·cases e with
  |b n=>exact he
  |r v eC=>exact⟨v,eC,he,aA _,λ _=>rfl⟩
  |x=>trivial
 ·by_cases hk:k<hp0.length
  ·exact .inl ⟨hk,hb⟩
  ·rw[tu (by simp;omega)] at hb
   cases hb
variable{G:Env}{TR:Nat->Tr}
theorem exK{T:oU}(hT:jc P T)(hG:AN P G cx)(hM:P.follows .mixedOrders=ae){d0:List eH}{c:gZ}{K:Xt->Fr->Hp->Prop}{Q:Exit->Act->ai->Prop}{fr:Fr}{hp:Hp}{a:Act}
  (h:DI T G hp0.length [] TR c fr hp K) (hA:At cx β0 hp0 w0 d0 fr hp a w) (hQ:∀e fr hp a w,K e fr hp->At cx β0 hp0 w0 d0 fr hp a w->Q (zec e) a w):Ct P c Q a w:=by
 rw[Zc] at h
 exact Ct.of_wp (JX hT hG hM c K Q fr hp a w hQ hA h)
def Left(cx:Cx)(β0:List En)(hp0:Hp)(w0:ai)(K:AV->Hp->Prop)(e:Ending)(w':ai):Prop:=∃v r bG cT,e=.returned v/\K r bG/\AC cx cT r v/\Inv cx cT bG w'/\Lk β0 hp0 w0 cT bG w'
variable{fn:fI}{E:gZ}
theorem zdl{T:oU}(hT:jc P T)(hG:AN P G cx)(hM:P.follows .mixedOrders=ae){k:Nat}{L:List Int}{fr:Fr}{hp:Hp}{K:AV->Hp->Prop}{d:eH}{qv:Array au}{ty:au}{cn:Array Bool}{a:Act}
  (h:zqU T G TR fn E hp0.length k L fr hp K) (hA:At cx β0 hp0 w0 [d] fr hp a w) (hb:β0[k]?=ab (.b n)) (hk:k<hp0.length) (hd:d.target=.builtin .close qv ty cn) (hda:d.args=#[.chan (ab n)]):Ct P E (zc5 P fn (Left cx β0 hp0 w0 K)) a w:=by
 refine exK hT hG hM h hA ?_
 intro e fr7 hp7 a7 w7 hk7 hA7
 cases e with
 |n=>exact hk7.elim
 |x id=>exact hk7.elim
 |r=>
  refine⟨rfl,.inr ?_⟩
  obtain⟨β7,hI7,hf7,hd7,hL7⟩:=hA7
  have hb7:β7[k]?=ab (.b n):=hL7.ext k _ hk hb
  obtain⟨hh,hh1,hk7⟩:=iS.1 hk7
  split at hk7
  ·obtain⟨hΦ,hk7⟩:=ba.1 hk7
   obtain⟨_,hk7⟩:=nq.1 hk7
   obtain⟨hn,ob,h3,h4⟩:=hI7.OZ k _ _ hh1 hb7
   obtain⟨s,r,rfl⟩:=hΦ _ h4
   have ho:=Ha (Ψ:=zO L ae) (ob:=.chan 1 (L.map (eE .i64)).toArray ae s r aa) hI7 hh1 hb7 ⟨s,r,rfl⟩ (by intro c e f hh;rw[h3] at hh;cases hh)
   obtain⟨x,hx,v,hv1,hv2⟩:=xq hT ho.inv hf7 hk7
   refine⟨d,.close,qv,ty,cn,.tuple #[],_,hd7,hd,?_,v,hv2,v,x,_,β7,rfl,hx,hv1,ho.inv,hL7.out ho⟩
   rw[hd,hda]
   have hc:=run_close_open (P:=P) qv ty h3
   simp[invoke,builtin,hc]
  ·exact hk7.elim
theorem zjq{T:oU}(hT:jc P T)(hG:bg P G)(hM:P.follows .mixedOrders=ae){f:ck}{r0 r2 r3:gZ}{o0 o1 p0 p1 p2:di}{id1 id4:Nat}{cl:Call}(hfn:P.funcs[f]?=ab fn)
  (fc:(P.funcs[f]?).map (λ fn=>(fn.name == "runtime.NumGoroutine",fn.body.isNone))=ab (aa,aa)) (hB:fn.body=ab (.seq r0 (.seq (.region id1 #[o0,o1] aa) (.seq r2 (.seq (.seq r3 (.cond (.tmp 16) (.region id4 #[p0,p1,p2] aa) .skip)) E)))))
  (h0:o0.op=.move (.tmp 1)/\o0.dst=ab 8/\o0.guard=ak) (h1:o1.op=.defer cl/\o1.dst=ak/\o1.guard=ak) (hc:cl.callee=.builtin .close/\cl.args=#[.tmp 8])
  (g0:p0.op=.move (.tmp 1)/\p0.dst=ab 17/\p0.guard=ak) (g1:p1.op=.move (.tmp 6)/\p1.dst=ab 18/\p1.guard=ak) (g2:p2.op=.send (.tmp 17) (.tmp 18)/\p2.dst=ak/\p2.guard=ak):
  bW P f { S:=zpd T G TR fn r0 r2 r3 E,C4:=λ _=>ak }:=by
 refine⟨fc,λ xs hp K hS cx β w vs hI gl ha=>?_⟩
 have hG:AN P G cx:=⟨hG,.inr gl⟩
 obtain⟨hn,hS⟩:=ba.1 hS
 have hS:=pX.1 hS
 rw[Cy] at hS
 have hA:=YT hI ha (by simpa using hn)
 refine cR (H4 hfn hB (R:=Left cx β hp w K) ?_) ?_
 ·refine Ct.seq (exK hT hG hM hS hA ?_)
  intro e fr1 ku a1 w1 rJ hA1
  cases e with
  |x id=>exact rJ.elim
  |r=>exact rJ.elim
  |n=>
   refine .inl ⟨rfl,?_⟩
   obtain⟨c,hc1,rJ⟩:=pW.1 rJ
   split at rJ
   ·rename_i k
    obtain⟨X5,hh0,rJ⟩:=iS.1 rJ
    split at rJ
    ·rename_i Φ0
     obtain⟨cj,rJ⟩:=jY.1 rJ
     have O0:k<hp.length:=(aO.1 hh0).1
     obtain⟨e0,he0⟩:∃e0,β[k]?=ab e0:=⟨_,aW (by rw[hI.len];exact O0)⟩
     have zuz:=hI.OZ k _ _ hh0 he0
     obtain⟨n,rfl⟩:∃n,e0=.b n:=by
      cases e0 with
      |b n=>exact⟨n,rfl⟩
      |r v eC=>exact zuz.elim
      |x=>exact zuz.elim
     obtain⟨sB,Ye,VP,hd1,hL1⟩:=hA1
     have sS:sB[k]?=ab (.b n):=hL1.ext k _ O0 he0
     have hv1:a1.tmps.getD 1 undef=.chan (ab n):=by
      obtain⟨_,m,hm1,hm2⟩:=VP.2 1 _ hc1
      rw[sS] at hm1
      cases hm1
      exact hm2
     have hcv:AC cx sB (.l (.o ak k)) (.chan (ab n)):=⟨rfl,n,sS,rfl⟩
     obtain⟨EP,rfl,hf2,zy6⟩:=dK (d:=ab 8) (K:=λ bx=>bx=fr1.set 8 (.l (.o ak k))) (jY.2 ⟨cj,rfl⟩) VP hcv
     refine Ct.seq (Ct.region ?_)
     refine pN.value (o:=o0) (v:=.chan (ab n)) (w':=w1) rfl h0.2.2 (by simp[bd,h0.1,bX,hv1]) ?_
     rw[h0.2.1]
     have hsz:8<a1.tmps.size:=by rw[<-VP.1];exact cj
     have hv8:(a1.put (ab 8) (.chan (ab n))).tmps.getD 8 undef=.chan (ab n):=by simp[rq,qQ,hsz]
     refine pN.defer (o:=o1) (d:=⟨.builtin .close cl.argTypes o1.type (cl.args.map fun|.const _=>ae|_=>aa),#[.chan (ab n)]⟩) (w':=w1) rfl h1.2.2 ?_ ?_
     ·simp only[bd,h1.1,resolve,hc.1]
      simp[hc.2,bX,hv8]
     rw[h1.2.1]
     refine pN.zbg ?_
     refine .inl ⟨rfl,?_⟩
     have hA2:At cx β hp w [⟨.builtin .close cl.argTypes o1.type (cl.args.map fun|.const _=>ae|_=>aa),#[.chan (ab n)]⟩] (fr1.set 8 (.l (.o ak k))) ku (({ a1.put (ab 8) (.chan (ab n)) with defers:=⟨.builtin .close cl.argTypes o1.type (cl.args.map fun|.const _=>ae|_=>aa),#[.chan (ab n)]⟩::(a1.put (ab 8) (.chan (ab n))).defers }:Act).put ak undef) w1:=
      ⟨sB,Ye,hf2,by simp[rq,hd1],hL1⟩
     refine Ct.seq (exK hT hG hM rJ hA2 ?_)
     intro e fr3 VU a3 w3 X9 hA3
     cases e with
     |x id=>exact X9.elim
     |r=>exact X9.elim
     |n=>
      refine .inl ⟨rfl,?_⟩
      refine Ct.seq (Ct.seq (exK hT hG hM X9 hA3 ?_))
      intro e fr4 hp4 a4 w4 VT hA4
      cases e with
      |x id=>exact VT.elim
      |r=>exact VT.elim
      |n=>
       refine .inl ⟨rfl,?_⟩
       obtain⟨t,ht1,VT⟩:=pW.1 VT
       split at VT
       ·rename_i t
        have hbr:=Pr.1 VT
        obtain⟨β4,hI4,hf4,hd4,hL4⟩:=hA4
        have htv:a4.eval (.tmp 16)=.bool t:=(hf4.2 16 _ ht1).2
        have AH:β4[k]?=ab (.b n):=hL4.ext k _ O0 he0
        refine Ct.cond htv (λ hT1=>?_) (λ hF1=>?_)
        ·have hp:=hbr.1 hT1
         obtain⟨c,hc4,hp⟩:=pW.1 hp
         split at hp
         ·rename_i k'
          obtain⟨hkk,hp⟩:=ba.1 hp
          obtain rfl:k'=k:=bf hkk
          obtain⟨zoY,hp⟩:=jY.1 hp
          have zy5:AC cx β4 (.l (.o ak k')) (.chan (ab n)):=⟨rfl,n,AH,rfl⟩
          have hv4:a4.tmps.getD 1 undef=.chan (ab n):=by
           obtain⟨_,m,hm1,hm2⟩:=hf4.2 1 _ hc4
           rw[AH] at hm1
           cases hm1
           exact hm2
          obtain⟨fr5,rfl,hf5,zDW⟩:=dK (d:=ab 17) (K:=λ bx=>bx=fr4.set 17 (.l (.o ak k'))) (jY.2 ⟨zoY,rfl⟩) hf4 zy5
          obtain⟨b,hb6,hp⟩:=pW.1 hp
          split at hp
          ·rename_i x
           obtain⟨UK,hp⟩:=jY.1 hp
           have hv6:(a4.put (ab 17) (.chan (ab n))).tmps.getD 6 undef=.int .i64 x:=(hf5.2 6 _ hb6).2
           obtain⟨fr6,rfl,hf6,zDX⟩:=dK (d:=ab 18) (r:=.l (.v (.int .i64 x))) (v:=.int .i64 x) (K:=λ bx=>bx=(fr4.set 17 (.l (.o ak k'))).set 18 (.l (.v (.int .i64 x)))) (jY.2 ⟨UK,rfl⟩) hf5 ⟨rfl,rfl⟩
           obtain⟨hh,hh1,hp⟩:=iS.1 hp
           split at hp
           ·obtain⟨hΦ,hp⟩:=ba.1 hp
            obtain⟨_,hp⟩:=nq.1 hp
            obtain⟨hn4,ob,h3,h4⟩:=hI4.OZ k' _ _ hh1 AH
            obtain⟨s,r,rfl⟩:=hΦ _ h4
            have ho:=Ha (Ψ:=zO [x] aa) (ob:=.chan 1 #[.int .i64 x] aa (s+1) r aa) hI4 hh1 AH ⟨s+1,r,rfl⟩ (by intro c e f hh;rw[h3] at hh;cases hh)
            have zq7:17<a4.tmps.size:=by rw[<-hf4.1];exact zoY
            have zzn:18<a4.tmps.size:=by rw[<-hf4.1];simpa using UK
            have e17:((a4.put (ab 17) (.chan (ab n))).put (ab 18) (.int .i64 x)).tmps.getD 17 undef=.chan (ab n):=by simp[rq,bS,zq7]
            have e18:((a4.put (ab 17) (.chan (ab n))).put (ab 18) (.int .i64 x)).tmps.getD 18 undef=.int .i64 x:=by simp[rq,qQ,zzn]
            refine Ct.region ?_
            refine pN.value (o:=p0) (v:=.chan (ab n)) (w':=w4) rfl g0.2.2 (by simp[bd,g0.1,bX,hv4]) ?_
            rw[g0.2.1]
            refine pN.value (o:=p1) (v:=.int .i64 x) (w':=w4) rfl g1.2.2 (by simp[bd,g1.1,bX,hv6]) ?_
            rw[g1.2.1]
            refine pN.send (o:=p2) (c:=n) (cap:=1) (s:=s) (r:=r) (v:=.int .i64 x) (buf:=#[]) (tm:=aa) rfl g2.2.2 g2.1 e17 e18 h3 (by simp) ?_
            rw[g2.2.1]
            refine pN.zbg ?_
            refine .inl ⟨rfl,?_⟩
            exact zdl (d:=⟨.builtin .close cl.argTypes o1.type (cl.args.map fun|.const _=>ae|_=>aa),#[.chan (ab n)]⟩) hT hG hM hp ⟨β4,ho.inv,hf6,by simp[rq,hd4],hL4.out ho⟩ he0 O0 rfl rfl
           ·exact hp.elim
          ·exact hp.elim
         ·exact hp.elim
        ·exact Ct.skip (.inl ⟨rfl,zdl (d:=⟨.builtin .close cl.argTypes o1.type (cl.args.map fun|.const _=>ae|_=>aa),#[.chan (ab n)]⟩) hT hG hM (hbr.2 hF1) ⟨β4,hI4,hf4,hd4,hL4⟩ he0 O0 rfl rfl⟩)
       ·exact VT.elim
    ·exact rJ.elim
   ·exact rJ.elim
 ·rintro e w' ⟨v,r,bG,cT,rfl,h4,h5,h6,h7⟩
  refine⟨v,r,bG,cT,rfl,h4,h5,⟨h6,λ k e he=>?_,λ k b hb=>(h7.om k b hb).imp JR id,h7.size,h7.len,λ k _ hn=>(hn trivial).elim,λ b hb hn=>h7.C4 b hb λ k=>hn k trivial⟩⟩
  exact h7.ext k e (by rw[<-hI.len];exact(aO.1 he).1) he
theorem zr0{m:Nat}(h:n=m+2):oY n=0::1::Bf 2 m:=by
 subst h
 rw[List.range_eq_range',qV,qV]
theorem zjh{T:oU}(hT:jc P T)(hG:bg P G)(hM:P.follows .mixedOrders=ae){f:ck}{r0:gZ}{ops:Array di}{o0 o1:di}{id1:Nat}(hfn:P.funcs[f]?=ab fn)
  (fc:(P.funcs[f]?).map (λ fn=>(fn.name == "runtime.NumGoroutine",fn.body.isNone))=ab (aa,aa)) (hB:fn.body=ab (.seq r0 (.seq (.region id1 ops aa) E))) (hs:ops.size=(ops.toList.drop 2).length+2)
  (q0:ops[0]?=ab o0) (h0:o0.op=.move (.tmp 3)/\o0.dst=ab 17/\o0.guard=ak) (q1:ops[1]?=ab o1) (h1:o1.dst=ab 18/\o1.guard=ak)
  {ct:au} (cM:o1.op=.recv ct (.tmp 17) ae)
  (Sw:∀(a:Act) (w:ai),(bd a.eval ⟨ak,.recv ct (.tmp 17) ae,0, "",#[],ak⟩).run P w=.ok (.comm #[{ chan:=a.eval (.tmp 17),send:=ak,zero:=.int .i64 0 }] ae (.recv ae)) w):
  bW P f { S:=zo9 T G TR fn r0 E ops,C4:=λ _=>ak }:=by
 have hz:∀(a:Act) (c:Nat) (w:ai),a.eval (.tmp 17)=.chan (ab c)->(bd a.eval o1).run P w=.ok (.comm #[Go.Conc.rcase c (.int .i64 0)] ae (.recv ae)) w:=by
  intro a c w h
  have h2:=Sw a w
  rw[h] at h2
  simp only[bd,cM] at h2 ⊢
  exact h2
 refine⟨fc,λ xs hp K hS cx β w vs hI gl ha=>?_⟩
 have hG:AN P G cx:=⟨hG,.inr gl⟩
 obtain⟨hn,hS⟩:=ba.1 hS
 have hS:=pX.1 hS
 rw[Cy] at hS
 have hA:=YT hI ha (by simpa using hn)
 refine cR (H4 hfn hB (R:=Left cx β hp w K) ?_) ?_
 ·refine Ct.seq (exK hT hG hM hS hA ?_)
  intro e fr1 ku a1 w1 rJ hA1
  cases e with
  |x id=>exact rJ.elim
  |r=>exact rJ.elim
  |n=>
   refine .inl ⟨rfl,?_⟩
   obtain⟨c,hc1,rJ⟩:=pW.1 rJ
   split at rJ
   ·rename_i k
    obtain⟨cj,rJ⟩:=jY.1 rJ
    obtain⟨X5,hh0,rJ⟩:=iS.1 rJ
    split at rJ
    ·rename_i Φ
     obtain⟨l,hΦ,rJ⟩:=rJ
     obtain⟨sB,Ye,VP,hd1,hL1⟩:=hA1
     obtain⟨n,sS,hv1⟩:∃n,sB[k]?=ab (.b n)/\a1.tmps.getD 3 undef=.chan (ab n):=(VP.2 3 _ hc1).2
     obtain⟨hn1,ob,h3,h4⟩:=Ye.OZ k _ _ hh0 sS
     obtain⟨s,r,rfl⟩:=hΦ _ h4
     have hcv:AC cx sB (.l (.o ak k)) (.chan (ab n)):=⟨rfl,n,sS,rfl⟩
     obtain⟨EP,rfl,hf2,zy6⟩:=dK (d:=ab 17) (K:=λ bx=>bx=fr1.set 17 (.l (.o ak k))) (jY.2 ⟨cj,rfl⟩) VP hcv
     have zq7:17<a1.tmps.size:=by rw[<-VP.1];exact cj
     have e17:(a1.put (ab 17) (.chan (ab n))).tmps.getD 17 undef=.chan (ab n):=by simp[rq,qQ,zq7]
     have rest:∀(fr3:Fr) (VU:Hp) (a3:Act) (w3:ai),At cx β hp w [] fr3 VU a3 w3->(zrf T G ops.toList (ops.toList.drop 2) fr3 VU λ fr4 hp4=>DI T G hp.length [] TR E fr4 hp4 λ e fr5 hp5=>match e with
       |.n=>False
       |.x _=>False
       |.r=>Wb T fr5 hp5 fn.results.toList λ r=>K r hp5)->
       pN P ops (λ e a w'=>(e=.normal/\Ct P E (zc5 P fn (Left cx β hp w K)) a w')\/(e=.ret/\zc5 P fn (Left cx β hp w K) .ret a w')) (Bf 2 (ops.toList.drop 2).length) a3 w3:=by
      intro fr3 VU a3 w3 hA3 X9
      rw[zdA] at X9
      refine pN.zbg (Zt hT hG ?_ _ 2 fr3 VU a3 w3 rfl hA3 X9)
      intro fr4 hp4 a4 w4 VT hA4
      refine .inl ⟨rfl,exK hT hG hM VT hA4 ?_⟩
      intro e fr5 hp5 a5 w5 hk5 hA5
      cases e with
      |n=>exact hk5.elim
      |x id=>exact hk5.elim
      |r=>
       obtain⟨β5,hI5,hf5,hd5,hL5⟩:=hA5
       obtain⟨x,hx,v,hv1,hv2⟩:=xq hT hI5 hf5 hk5
       exact⟨rfl,.inl ⟨hd5,v,hv2,v,x,_,β5,rfl,hx,hv1,hI5,hL5⟩⟩
     refine Ct.seq (Ct.region ?_)
     rw[zr0 hs]
     refine pN.value (o:=o0) (v:=.chan (ab n)) (w':=w1) q0 h0.2.2 (by simp[bd,h0.1,bX,hv1]) ?_
     rw[h0.2.1]
     cases l with
     |some x=>
      obtain⟨UK,rJ⟩:=jY.1 rJ
      obtain⟨_,rJ⟩:=nq.1 rJ
      obtain⟨fr3,rfl,hf3,zy7⟩:=dK (d:=ab 18) (r:=.t [.inl (.v (.int .i64 x)),.inl (.v (.bool ae))]) (v:=.tuple #[.int .i64 x,.bool ae]) (K:=λ bx=>bx=(fr1.set 17 (.l (.o ak k))).set 18 (.t [.inl (.v (.int .i64 x)),.inl (.v (.bool ae))])) (jY.2 ⟨UK,rfl⟩) hf2 ⟨_,rfl,⟨rfl,rfl⟩,⟨rfl,rfl⟩,trivial⟩
      have ho:=Ha (Ψ:=zO [] ae) (ob:=.chan 1 #[] ae s (r+1) aa) Ye hh0 sS ⟨s,r+1,rfl⟩ (by intro c e f hh;rw[h3] at hh;cases hh)
      refine pN.recv (o:=o1) (c:=n) (cap:=1) (s:=s) (r:=r) (z:=.int .i64 0) (v:=.int .i64 x) (buf:=#[.int .i64 x]) (tm:=aa) (closed:=ae) q1 h1.2 (hz _ n _ e17) h3 (by simp) (by simp[qQ]) ?_
      rw[h1.1]
      exact rest _ _ _ _ ⟨sB,ho.inv,hf3,by simp[rq,hd1],hL1.out ho⟩ rJ
     |none=>
      obtain⟨UK,rJ⟩:=jY.1 rJ
      obtain⟨_,rJ⟩:=nq.1 rJ
      obtain⟨fr3,rfl,hf3,zy7⟩:=dK (d:=ab 18) (r:=.t [.inl (.v (.int .i64 0)),.inl (.v (.bool aa))]) (v:=.tuple #[.int .i64 0,.bool aa]) (K:=λ bx=>bx=(fr1.set 17 (.l (.o ak k))).set 18 (.t [.inl (.v (.int .i64 0)),.inl (.v (.bool aa))])) (jY.2 ⟨UK,rfl⟩) hf2 ⟨_,rfl,⟨rfl,rfl⟩,⟨rfl,rfl⟩,trivial⟩
      have ho:=Ha (Ψ:=zO [] ae) (ob:=.chan 1 #[] ae s r aa) Ye hh0 sS ⟨s,r,rfl⟩ (by intro c e f hh;rw[h3] at hh;cases hh)
      refine pN.zvX (o:=o1) (c:=n) (cap:=1) (s:=s) (r:=r) (z:=.int .i64 0) (tm:=aa) q1 h1.2 (hz _ n _ e17) h3 ?_
      rw[h1.1]
      have hw:({ w1 with heap:=w1.heap.setIfInBounds n (.chan 1 #[] ae s r aa) }:ai)=w1:=by
       have cj:n<w1.heap.size:=(ah.1 h3).1
       have he:w1.heap.setIfInBounds n (.chan 1 #[] ae s r aa)=w1.heap:=by
        apply Array.ext_getElem?
        intro i
        by_cases hi:n=i
        ·subst hi
         rw[h3]
         simp[cj]
        ·rw[bt hi]
       rw[he]
      rw[hw] at ho
      exact rest _ _ _ _ ⟨sB,ho.inv,hf3,by simp[rq,hd1],hL1.out ho⟩ rJ
    ·exact rJ.elim
   ·exact rJ.elim
 ·rintro e w' ⟨v,r,bG,cT,rfl,h4,h5,h6,h7⟩
  refine⟨v,r,bG,cT,rfl,h4,h5,⟨h6,λ k e he=>?_,λ k b hb=>(h7.om k b hb).imp JR id,h7.size,h7.len,λ k _ hn=>(hn trivial).elim,λ b hb hn=>h7.C4 b hb λ k=>hn k trivial⟩⟩
  exact h7.ext k e (by rw[<-hI.len];exact(aO.1 he).1) he
end
end Ab
open Go.RowKit
open Ab
def NX:Env:=[(76,lh)]
theorem FN:bg al.prog NX:=aC ⟨jS,trivial⟩
def Ev:DA [Pf]->(DV->Prop)->Prop:=λ⟨⟨fO,fW,cu,gC,gu,gL,gN,fP,gH,gE,fF,eM,fg,fC,gw,gy,cI,cK,fN,fU,cq,gD,gv,gM,gP,fe,gJ,gG,fG,eQ,fH,fE,gx,gz,cJ,cL,_⟩,_⟩ K=>K (.l (.v (.bool (xf ⟨⟨⟨fO,fW,cu⟩,gC,gu,⟨gL,gN,fP,gH,gE⟩,⟨fF,eM,fg,fC⟩,⟨gw,gy,cI,cK⟩⟩,⟨⟨fN,fU,cq⟩,gD,gv,⟨gM,gP,fe,gJ,gG⟩,⟨fG,eQ,fH,fE⟩,⟨gx,gz,cJ,cL⟩⟩⟩))))
theorem Nv:ji al.prog 42 [Pf] Ev:=by
 refine bh (TR:=ja) aS aH FN (Rn.fM Tryz.func42) rfl ?_
 dsimp only[DA,HL,Sh.T]
 rintro⟨⟨fO,fW,cu,gC,gu,gL,gN,fP,gH,gE,fF,eM,fg,fC,gw,gy,cI,cK,fN,fU,cq,gD,gv,gM,gP,fe,gJ,gG,fG,eQ,fH,fE,gx,gz,cJ,cL,_⟩,_⟩ K hK _
 dsimp only[Ev] at hK
 repeat' (conv=>whnf);first|refine az.mk ?_ ?_;exact gS|refine End.mk ?_|apply gU;exact gA|refine gB ?_ ?_<;>intro hb h<;>try exact c8
 all_goals
  (refine gI hK ?_;repeat' first|exact gR|refine az.mk ?_ ?_)
  simp_all [xf]
def D5:CS:=dn [Pf] Ev
theorem Kh:bW al.prog 42 D5:=bH Nv
def zeE:Env:=[(80,Hy)]
theorem Xy:bg al.prog zeE:=aC ⟨M3,trivial⟩
def zdG:DA [.inr [.bool,.bool,.bool,.bool],.inl .int]->(DV->Prop)->Prop:=λ⟨⟨mc,mh,cy,cz,_⟩,c,_⟩ K=>az (0<=c/\c<=3) <| K (.a (Jp.d (M0 ⟨mc,mh,cy,cz⟩ c)))
theorem zex:ji al.prog 45 [.inr [.bool,.bool,.bool,.bool],.inl .int] zdG:=by
 refine bh (TR:=ja) aS aH Xy (Rn.fM Tryz.func45) rfl ?_
 dsimp only[DA,HL,Sh.T]
 rintro⟨⟨mc,mh,cy,cz,_⟩,c,_⟩ K ⟨hc,hK⟩ _
 replace hc:0<=c/\c<=3:=hc
 replace hK:K (.a (Jp.d (M0 ⟨mc,mh,cy,cz⟩ c))):=hK
 obtain⟨q,rfl⟩:∃q:Fin 4,(q.val:Int)=c:=⟨⟨c.toNat,by omega⟩,by simp;omega⟩
 unfold M0 at hK
 rw[<-zrz q,<-zry q] at hK
 exact gW
def zdi:CS:=dn [.inr [.bool,.bool,.bool,.bool],.inl .int] zdG
theorem zbt:bW al.prog 45 zdi:=bH zex
def sqL:gZ->gZ
 |.seq a _=>a
 |c=>c
def sqR:gZ->gZ
 |.seq _ b=>b
 |c=>c
def rgO:gZ->Array di
 |.region _ o _=>o
 |_=>#[]
def bdC(fn:fI):gZ:=match fn.body with
 |some c=>c
 |none=>.skip
def Ek:Env:=[(77,HE)]
theorem KT:bg al.prog Ek:=aC ⟨M7,trivial⟩
def LZ:CS:={ S:=zpd jV Ek ja Tryz.f43 (sqL (bdC Tryz.f43)) (sqL (sqR (sqR (bdC Tryz.f43)))) (sqL (sqL (sqR (sqR (sqR (bdC Tryz.f43)))))) (sqR (sqR (sqR (sqR (bdC Tryz.f43))))),C4:=λ _=>ak }
theorem QQ:bW al.prog 43 LZ:=zjq aS KT aH (Rn.fM Tryz.func43) gK rfl ⟨rfl,rfl,rfl⟩ ⟨rfl,rfl,rfl⟩ ⟨rfl,rfl⟩ ⟨rfl,rfl,rfl⟩ ⟨rfl,rfl,rfl⟩ ⟨rfl,rfl,rfl⟩
def Qi:Env:=[(78,HD),(79,LX)]
theorem TG:bg al.prog Qi:=aC ⟨M6,QO,trivial⟩
def YZ:CS:={ S:=zo9 jV Qi ja Tryz.f44 (sqL (bdC Tryz.f44)) (sqR (sqR (bdC Tryz.f44))) (rgO (sqL (sqR (bdC Tryz.f44)))),C4:=λ _=>ak }
theorem ZS:bW al.prog 44 YZ:=zjh aS TG aH (Rn.fM Tryz.func44) gK rfl rfl rfl ⟨rfl,rfl,rfl⟩ rfl ⟨rfl,rfl⟩ rfl (by
 intro a w
 simp[bd,go_sem,Tryz.underlying130])
end
section
open Go.RowKit
namespace Ab
def zaW:Nat->(List aj->List LV->Prop)->Prop
 |0,K=>K [] []
 |n+1,K=>∀v,zaW n λ r x=>K (v::r) (.v v::x)
theorem W3:∀{n:Nat} {K:List aj->List LV->Prop},zaW n K->∀us:List aj,us.length=n->K us (us.map LV.v)
 |0,_,h,us,hl=>by
  cases us with
  |nil=>exact h
  |cons _ _=>cases hl
 |n+1,_,h,us,hl=>by
  cases us with
  |nil=>cases hl
  |cons v us=>exact W3 (h v) us (by simpa using hl)
variable{K:List aj->List LV->Prop}
theorem zuO(h: K [] []):zaW 0 K:=h
theorem zzE(h:∀v0 v1 v2 v3 v4 v5 v6 v7:aj,K [v0,v1,v2,v3,v4,v5,v6,v7] [.v v0,.v v1,.v v2,.v v3,.v v4,.v v5,.v v6,.v v7]):zaW 8 K:=h
theorem zvU(h:∀v0 v1 v2 v3 v4 v5 v6 v7 v8 v9 v10 v11 v12 v13:aj,K [v0,v1,v2,v3,v4,v5,v6,v7,v8,v9,v10,v11,v12,v13] [.v v0,.v v1,.v v2,.v v3,.v v4,.v v5,.v v6,.v v7,.v v8,.v v9,.v v10,.v v11,.v v12,.v v13]):zaW 14 K:=h
def V1:List LV->List LV->(List LV->Prop)->Prop
 |[],ys,K=>K ys
 |x::xs,ys,K=>V1 xs ys λ r=>K (x::r)
theorem A6:∀{xs ys:List LV} {K:List LV->Prop},V1 xs ys K↔K (xs++ys)
 |[],_,_=>Iff.rfl
 |x::xs,ys,K=>by simp only[V1,A6 (xs:=xs),jR]
def zvO(n0 m:Nat)(x0 x3:List LV)(K:List DL->Prop)(r:AV)(hp:Hp):Prop:=match r with
 |.a cs=>GO cs n0 λ c0=>az (c0=x0) <| GG cs n0 λ r0=>GO r0 m λ cm=>GG r0 m λ c3=>az (c3=x3) <| ∃d,Pa hp (.a cm) (.a d)/\K d
 |_=>False
def OF(P:aG)(f:ck)(n0:Nat)(ss:List Sh)(n3:Nat)(sig:List (Sh⊕List Sh))(S:HL ss->DA sig->(List DL->Prop)->Prop):Prop:=∀x y K,S x y K->∀(w:ai) (u0 us u3 rest:List aj),u0.length=n0->u3.length=n3->(∀v∈u0,v.oneCell'=ae)->(∀v∈u3,v.oneCell'=ae)->VV w ss x us->rdA w sig y rest->Gw w->
 fV P f (.agg (u0++(us++u3)).toArray::rest).toArray w λ e w'=>∃d ud,e=.returned (.agg (u0++(ud++u3)).toArray)/\K d/\cE w.heap.size w w'/\∃bs,C6 w' w.heap.size d ud bs/\bs.Nodup
def Wo(n0 : Nat)(ss : List Sh)(n3 : Nat)(sig : List (Sh ⊕ List Sh))(S : HL ss → DA sig → (List DL → Prop) → Prop) : CS :=
  { S := fun xs hp K => match xs with
      | .a cs :: rest => GO cs n0 fun c0 => GG cs n0 fun r0 => GO r0 ss.length fun cm => GG r0 ss.length fun c3 => O9 c3 n3 <| zmw hp ss cm fun x => EX hp sig rest fun y => S x y fun d => YJ hp d fun rc bG => V1 rc c3 fun q => V1 c0 q fun q' => K (.a q') bG
      | _ => False
    C4 := fun _ => ab [] }
section
variable{P:aG}{cx:Cx}{β:List En}{hp:Hp}{w:ai}
theorem JU:∀{us vs:List aj},jP cx β (us.map LV.v) vs->vs=us
 |[],[],_=>rfl
 |u::us,v::vs,h=>by
  have h1:v=u:=h.1.2
  rw[h1,JU (us:=us) h.2]
 |[],_::_,h=>h.elim
 |_::_,[],h=>h.elim
theorem Qe{T:oU}{G:Env}{TR:Nat->Tr}{f:ck}{fn:fI}{n0 n3:Nat}{ss:List Sh}{sig:List (Sh⊕List Sh)}{S:HL ss->DA sig->(List DL->Prop)->Prop}(W0:List Nat)(hT:jc P T)(hM:P.follows .mixedOrders=ae)(hG:bg P G)(hfn:P.funcs[f]?=ab fn)(hn:hY (sig.length+1) fn.ntmps=ae)
  (h:∀(x:HL ss) (y:DA sig) (K:List DL->Prop),S x y K->bds ss x->bdA sig y->zaW n0 λ _ x0=>zaW n3 λ _ x3=>YF ss x λ c=>xj sig y λ ys=>V1 c x3 λ q=>V1 x0 q λ q'=>zK T G 0 W0 TR fn (.a q'::ys) [] (zvO n0 ss.length x0 x3 K)):OF P f n0 ss n3 sig S:=by
 intro x y K hS w u0 us u3 rest hl0 hl3 ho0 ho3 hx hy hg
 obtain⟨sS,ha1⟩:=WO (β:=[]) hx
 obtain⟨kU,ha2⟩:=Cw (β:=[]) hy
 have hI:Inv ⟨w,[]⟩ [] [] w:=⟨wa.refl _ _,rfl,λ k t e h=>by simp at h,λ i k b h=>by simp[ownB] at h⟩
 have h1:=W3 (W3 (h x y K hS sS kU) u0 hl0) u3 hl3
 have h2:=A6.1 (A6.1 (qM.1 (J0.1 h1)))
 have hargs:Uv ⟨w,[]⟩ [] (.a (u0.map LV.v++(zaM ss x++u3.map LV.v))::MW sig y) ((tr (u0++(us++u3)).toArray::rest).toArray).toList:=
  ⟨⟨_,rfl,jP.append (jP.consts ho0) (jP.append ha1 (jP.consts ho3))⟩,ha2⟩
 refine cR (zFQ (W0:=W0) hT hM ⟨hG,.inr ⟨hg,Gm.nil⟩⟩ hfn hI hargs (by rw[List.length_cons,tR];exact hn) h2) ?_
 rintro e w' ⟨v,r,bG,cT,rfl,hk,hr,nX,_⟩
 cases r with
 |a cs=>
  obtain⟨_,hk⟩:=tC.1 hk
  obtain⟨k1,hk⟩:=ba.1 hk
  obtain⟨_,hk⟩:=tt.1 hk
  obtain⟨_,hk⟩:=tC.1 hk
  obtain⟨_,hk⟩:=tt.1 hk
  obtain⟨k2,d,k3,k4⟩:=ba.1 hk
  rw[lD] at k2
  obtain⟨uv,rfl,hu⟩:=hr
  have e0:=JU (k1▸hu.take n0)
  have e3:=JU (k2▸hu.drop (n0+ss.length))
  have hm:AC ⟨w,[]⟩ cT (.a ((cs.drop n0).take ss.length)) (.agg ((uv.toList.drop n0).take ss.length).toArray):=⟨_,rfl,by simpa using (hu.drop n0).take ss.length⟩
  obtain⟨bs,⟨uz,hz,h4⟩,h5⟩:=YM nX hm k3
  obtain rfl:((uv.toList.drop n0).take ss.length).toArray=uz:=by
   injection hz
  refine⟨d,(uv.toList.drop n0).take ss.length,?_,k4,⟨nX.kp.os,nX.kp.tape,nX.kp.output,nX.kp.size,λ b hb=>nX.kp.block b hb (by simp)⟩,bs,h4,h5⟩
  have za7:uv.toList=u0++((uv.toList.drop n0).take ss.length++u3):=by
   rw[<-e0,<-e3,<-lD,dH,dH]
  rw[<-za7]
 |_=>exact hk.elim
theorem zdw{f:ck}{n0 n3:Nat}{ss:List Sh}{sig:List (Sh⊕List Sh)}{S:HL ss->DA sig->(List DL->Prop)->Prop}(hfn:(P.funcs[f]?).map (λ fn=>(fn.name == "runtime.NumGoroutine",fn.body.isNone))=ab (aa,aa))(h:OF P f n0 ss n3 sig S):bW P f (Wo n0 ss n3 sig S):=by
 refine⟨hfn,λ xs hp K hS cx β w vs hI gl ha=>?_⟩
 unfold Wo at hS
 dsimp only at hS
 split at hS
 ·rename_i cs rest
  obtain⟨g1,hS⟩:=tC.1 hS
  obtain⟨g2,hS⟩:=tt.1 hS
  obtain⟨g3,hS⟩:=tC.1 hS
  obtain⟨g4,hS⟩:=tt.1 hS
  obtain⟨g5,hS⟩:=Bb.1 hS
  rw[lD] at g5
  simp only[iF] at g3 g4 g5
  obtain⟨v0,vr,yB⟩:∃v0 vr,vs.toList=v0::vr:=by
   cases hv:vs.toList with
   |nil=>rw[hv] at ha;exact ha.elim
   |cons v0 vr=>exact⟨v0,vr,rfl⟩
  rw[yB] at ha
  obtain⟨⟨us0,rfl,hu⟩,zvK⟩:=ha
  obtain⟨x,h1,h2⟩:=zg5 hI ((hu.drop n0).take ss.length) hS
  obtain⟨y,h3,h4⟩:=UF hI zvK h1
  have hl:=hu.length
  have za7:us0.toList=us0.toList.take n0++((us0.toList.drop n0).take ss.length++us0.toList.drop (n0+ss.length)):=by
   rw[<-lD,dH,dH]
  have zzt:vs=(tr (us0.toList.take n0++((us0.toList.drop n0).take ss.length++us0.toList.drop (n0+ss.length))).toArray::vr).toArray:=by
   apply bk.1
   rw[yB,<-za7]
  rw[zzt]
  refine cR (h x y _ h3 w (us0.toList.take n0) _ (us0.toList.drop (n0+ss.length)) vr (by rw[dm];omega) (by rw[iF];omega) (λ v hv=>hu.one v (List.mem_of_mem_take hv)) (λ v hv=>hu.one v (List.mem_of_mem_drop hv)) h2 h4 (gl.1.keep gl.2 hI.kp)) ?_
  rintro e w' ⟨d,ud,rfl,k1,hb,bs,k2,k3⟩
  obtain⟨r,bG,cT,k4,k5,k6⟩:=zhh (d:=.a d) (v:=.agg ud.toArray) (K:=λ r bG=>match r with
   |.a rc=>V1 rc ((cs.drop n0).drop ss.length) λ q=>V1 (cs.take n0) q λ q'=>K (.a q') bG
   |_=>False) hI hb ⟨_,rfl,k2⟩ k3 k1
  cases r with
  |a rc=>
   obtain⟨uz,hz,k7⟩:=k5
   injection hz with hz
   subst hz
   have k4:=A6.1 (A6.1 k4)
   rw[lD] at k4
   exact⟨_,_,bG,cT,rfl,k4,⟨_,rfl,jP.append ((hu.take n0).ext k6.ext) (jP.append k7 ((hu.drop (n0+ss.length)).ext k6.ext))⟩,k6⟩
  |_=>exact k4.elim
 ·exact hS.elim
end
end Ab
open Go.RowKit
open Ab
def TW:Env:=[]
theorem Lf:bg al.prog TW:=aC trivial
def MI:DA [.inl .int]->(DV->Prop)->Prop:=λ⟨n,_⟩ K=>az (5<=n/\n<=8) <| K (.l (.v (.int .i64 (pw n))))
theorem Ts:ji al.prog 238 [.inl .int] MI:=by
 refine bh (TR:=ja) aS aH Lf (Rn.fM Tryz.func238) rfl ?_
 rintro⟨(n:Int),_⟩ K ⟨hn,hK⟩ _
 replace hK:K (.l (.v (.int .i64 (pw n)))):=hK
 replace hn:5<=n/\n<=8:=hn
 have hc:n=5\/n=6\/n=7\/n=8:=by omega
 rcases hc with rfl|rfl|rfl|rfl
 all_goals
  repeat' (conv=>whnf);first|refine az.mk ?_ ?_;exact gS|refine End.mk ?_|apply gU;exact gA|refine gB ?_ ?_<;>intro hb h<;>try exact c8
  refine iK.it 9 ?_
  (repeat' ((conv=>whnf);first|refine az.mk ?_ ?_;exact gS|refine End.mk ?_|apply gU;exact gA|refine gB ?_ ?_<;>intro hb h<;>try exact c8))
  all_goals exact gF hK
def Mc:CS:=dn [.inl .int] MI
theorem Q0:bW al.prog 238 Mc:=bH Ts
def XB:Env:=[(238,Mc)]
theorem Ol:bg al.prog XB:=aC ⟨Q0,trivial⟩
def QC:DA [.inr [.int,.int,.int],.inl .int]->(DV->Prop)->Prop:=λ⟨⟨fb,fq,fst,_⟩,b,_⟩ K=>az (5<=fb/\fb<=8) <| az (0<=b) <| K (.l (.v (.int .i64 (b % pw fb))))
theorem Xu:ji al.prog 199 [.inr [.int,.int,.int],.inl .int] QC:=by
 refine bh (TR:=ja) aS aH Ol (Rn.fM Tryz.func199) rfl ?_
 dsimp only[DA,HL,Sh.T]
 rintro⟨⟨fb,fq,fst,_⟩,b,_⟩ K ⟨hf,hb,hK⟩ _
 replace hK:K (.l (.v (.int .i64 (b % pw fb)))):=hK
 replace hf:5<=fb/\fb<=8:=hf
 replace hb:0<=b:=hb
 have hw:=UP fb
 exact gW
def P8:CS:=dn [.inr [.int,.int,.int],.inl .int] QC
theorem S6:bW al.prog 199 P8:=bH Xu
def TU:Env:=[]
theorem Ld:bg al.prog TU:=aC trivial
def MH:DA [.inr [.int,.int,.int],.inr [.int,.int,.int]]->(DV->Prop)->Prop:=λ⟨⟨fb,fq,fst,_⟩,⟨Gj,Sz,wq,_⟩,_⟩ K=>K (.l (.v (.int .i64 (rL ⟨fb,fq,fst⟩ ⟨Gj,Sz,wq⟩))))
theorem Tp:ji al.prog 200 [.inr [.int,.int,.int],.inr [.int,.int,.int]] MH:=by
 refine bh (TR:=ja) aS aH Ld (Rn.fM Tryz.func200) rfl ?_
 dsimp only[DA,HL,Sh.T]
 rintro⟨⟨fb,fq,fst,_⟩,⟨Gj,Sz,wq,_⟩,_⟩ K hK _
 dsimp only[MH] at hK
 repeat' (conv=>whnf);first|refine az.mk ?_ ?_;exact gS|refine End.mk ?_|apply gU;exact gA|refine gB ?_ ?_<;>intro hb h<;>try exact c8
 all_goals
  (refine gI hK ?_;repeat' first|exact gR|refine az.mk ?_ ?_)
  clear hK
  simp_all [rL]
def Mb:CS:=dn [.inr [.int,.int,.int],.inr [.int,.int,.int]] MH
theorem QZ:bW al.prog 200 Mb:=bH Tp
def zcW(g:Int):Prop:=g=-1\/(0<=g/\g<=255)
theorem zbu(a b:X4):rL a b=rL b a:=by
 unfold rL
 by_cases h:a=b
 ·simp[h]
 ·rw[if_neg h,if_neg (dr h)]
theorem zvV{a b g:Int}(ha:5<=a/\a<=8)(hb:5<=b/\b<=8):g % pw b % pw a=g % pw (yI a b):=by
 have h1:a=5\/a=6\/a=7\/a=8:=by omega
 have h2:b=5\/b=6\/b=7\/b=8:=by omega
 rcases h1 with rfl|rfl|rfl|rfl<;>rcases h2 with rfl|rfl|rfl|rfl<;>simp[pw,yI]<;>omega
def Oj:Env:=[(197,L9),(199,P8),(200,Mb),(198,L6)]
theorem Gc:bg al.prog Oj:=aC ⟨QX,S6,QZ,QV,trivial⟩
def Sn:Nat->Tr:=λ n=>match n with
 |4=>.op 0 0 (.op 1 0 (.op 2 0 (.op 3 0 (.op 4 0 (.op 5 0 (.op 8 0 (.op 9 0 (.op 10 0 (.fork 6 1 (.fork 7 1 (.fork 11 1 (.op 12 0 (.fork 13 1 (.op 14 0 (.op 15 0 (.op 16 0 (.op 17 1 (.op 18 1 (.op 19 2 (.nil))))))) 17 1 (.op 13 1 (.op 14 1 (.op 15 0 (.op 16 0 (.op 18 1 (.op 19 2 (.nil))))))))) 17 1 (.op 11 1 (.op 12 1 (.op 13 1 (.op 14 1 (.op 15 0 (.op 16 0 (.op 18 1 (.op 19 2 (.nil)))))))))) 17 1 (.op 7 1 (.op 11 1 (.op 12 1 (.op 13 1 (.op 14 1 (.op 15 0 (.op 16 0 (.op 18 1 (.op 19 2 (.nil))))))))))) 17 1 (.op 6 1 (.op 7 1 (.op 11 1 (.op 12 1 (.op 13 1 (.op 14 1 (.op 15 0 (.op 16 0 (.op 18 1 (.op 19 2 (.nil))))))))))))))))))))
 |_=>.nil
theorem NO:OF al.prog 132 0 [.int,.int,.int,.int,.int,.int,.int,.bK,.bool,.int] 8 [.inr [.int,.int,.int],.inl .int] (λ⟨fb,fq,fst,pe,pc,rr,rt,rl,ro,ra,_⟩ ⟨⟨Gj,Sz,wq,_⟩,g,_⟩ K=>az (ir ⟨rr,rt,rl,ro,ra⟩=ae) <| az (5<=fb/\fb<=8) <| az (5<=Gj/\Gj<=8) <| az (zcW g) <| K (([.v (.int .i64 fb),.v (.int .i64 fq),.v (.int .i64 fst),.v (.int .i64 pe),.v (.int .i64 pc)]:List DL)++yy.d (oK ⟨rr,rt,rl,ro,ra⟩ ⟨fb,fq,fst⟩ ⟨Gj,Sz,wq⟩ g))):=by
 refine Qe (TR:=Sn) [] aS aH Gc (Rn.fM Tryz.func132) rfl ?_
 rintro⟨(fb:Int),(fq:Int),(fst:Int),(pe:Int),(pc:Int),⟨(rr:Int),(rt:Int),(rl:List (Int×Int)),(ro:Bool),(ra:Int),_⟩⟩ ⟨⟨(Gj:Int),(Sz:Int),(wq:Int),_⟩,(g:Int),_⟩ K ⟨a4,hfa,hf,hg,hK⟩ _ _
 refine zuO (zzE λ v0 v1 v2 v3 v4 v5 v6 v7=>?_)
 replace hK:K (([.v (.int .i64 fb),.v (.int .i64 fq),.v (.int .i64 fst),.v (.int .i64 pe),.v (.int .i64 pc)]:List DL)++yy.d (oK ⟨rr,rt,rl,ro,ra⟩ ⟨fb,fq,fst⟩ ⟨Gj,Sz,wq⟩ g)):=hK
 replace a4:ir ⟨rr,rt,rl,ro,ra⟩=ae:=a4
 replace hfa:5<=fb/\fb<=8:=hfa
 replace hf:5<=Gj/\Gj<=8:=hf
 replace hg:g=-1\/(0<=g/\g<=255):=hg
 have hag:=(oN a4).2.2.2.1
 dsimp only at hag
 have w1:=UP fb
 have w2:=UP Gj
 rcases hg with rfl|hg
 ·rw[show oK ⟨rr,rt,rl,ro,ra⟩ ⟨fb,fq,fst⟩ ⟨Gj,Sz,wq⟩ (-1)=yR ⟨rr,rt,rl,ro,ra⟩ from rfl] at hK
  exact gWf
 ·have zDZ:0<=g % pw Gj:=jq _ (by omega)
  have e:oK ⟨rr,rt,rl,ro,ra⟩ ⟨fb,fq,fst⟩ ⟨Gj,Sz,wq⟩ g=(rN ⟨rr,rt,rl,ro,ra⟩ (g % pw Gj % pw fb,rL ⟨Gj,Sz,wq⟩ ⟨fb,fq,fst⟩)).r:=by
   have hgb:=WK (a:=⟨fb,fq,fst⟩) (b:=⟨Gj,Sz,wq⟩) hg
   rw[zvV hfa hf,zbu]
   unfold oK rN
   rw[if_neg (by omega),if_pos (by simp only[a4,zHU];exact hgb)]
   rfl
  rw[e] at hK
  exact gWf
def Ee:CS:=Wo 0 [.int,.int,.int,.int,.int,.int,.int,.bK,.bool,.int] 8 [.inr [.int,.int,.int],.inl .int] (λ⟨fb,fq,fst,pe,pc,rr,rt,rl,ro,ra,_⟩ ⟨⟨Gj,Sz,wq,_⟩,g,_⟩ K=>az (ir ⟨rr,rt,rl,ro,ra⟩=ae) <| az (5<=fb/\fb<=8) <| az (5<=Gj/\Gj<=8) <| az (zcW g) <| K (([.v (.int .i64 fb),.v (.int .i64 fq),.v (.int .i64 fst),.v (.int .i64 pe),.v (.int .i64 pc)]:List DL)++yy.d (oK ⟨rr,rt,rl,ro,ra⟩ ⟨fb,fq,fst⟩ ⟨Gj,Sz,wq⟩ g)))
theorem Kq:bW al.prog 132 Ee:=zdw gK NO
def Sb:Env:=[(183,uf),(196,HU)]
theorem Jf:bg al.prog Sb:=aC ⟨rF,Nh,trivial⟩
def Un:Nat->Tr:=λ n=>match n with
 |1=>.op 0 0 (.op 1 0 (.op 2 0 (.op 4 0 (.op 3 1 (.op 5 1 (.op 6 1 (.op 7 1 (.op 8 2 (.nil)))))))))
 |_=>.nil
theorem Ry:OF al.prog 131 14 [.bool,.bool,.bool,.bool] 0 [.inl .int] (λ⟨mc,mh,cy,cz,_⟩ ⟨c,_⟩ K=>az (0<=c/\c<=3) <| K (Jp.d (M0 ⟨mc,mh,cy,cz⟩ c))):=by
 refine Qe (TR:=Un) [] aS aH Jf (Rn.fM Tryz.func131) rfl ?_
 rintro⟨(mc:Bool),(mh:Bool),(cy:Bool),(cz:Bool),_⟩ ⟨(c:Int),_⟩ K ⟨hc,hK⟩ _ _
 refine zvU λ v0 v1 v2 v3 v4 v5 v6 v7 v8 v9 v10 v11 v12 v13=>zuO ?_
 replace hK:K (Jp.d (M0 ⟨mc,mh,cy,cz⟩ c)):=hK
 replace hc:0<=c/\c<=3:=hc
 unfold M0 at hK
 rw[show c % 2=c/1 % 2 by simp] at hK
 exact gW
def HX:CS:=Wo 14 [.bool,.bool,.bool,.bool] 0 [.inl .int] (λ⟨mc,mh,cy,cz,_⟩ ⟨c,_⟩ K=>az (0<=c/\c<=3) <| K (Jp.d (M0 ⟨mc,mh,cy,cz⟩ c)))
theorem Nj:bW al.prog 131 HX:=zdw gK Ry
def TV:Env:=[(92,r9),(130,Ma),(132,Ee),(131,HX)]
theorem Le:bg al.prog TV:=aC ⟨qh,QY,Kq,Nj,trivial⟩
def XX:Nat->Tr:=λ n=>match n with
 |7=>.op 0 0 (.op 1 0 (.op 2 0 (.op 3 0 (.op 5 0 (.op 6 0 (.op 7 0 (.op 4 1 (.op 8 1 (.op 9 2 (.nil))))))))))
 |8=>.op 0 0 (.op 1 0 (.op 2 0 (.op 3 0 (.op 4 0 (.op 6 0 (.op 7 0 (.op 8 0 (.op 5 1 (.op 9 1 (.op 10 2 (.nil)))))))))))
 |_=>.nil
def zaa:DA [Pf]->(DV->Prop)->Prop:=λ⟨⟨fO,fW,cu,gC,gu,gL,gN,fP,gH,gE,fF,eM,fg,fC,gw,gy,cI,cK,fN,fU,cq,gD,gv,gM,gP,fe,gJ,gG,fG,eQ,fH,fE,gx,gz,cJ,cL,_⟩,_⟩ K=>az (xf ⟨⟨⟨fO,fW,cu⟩,gC,gu,⟨gL,gN,fP,gH,gE⟩,⟨fF,eM,fg,fC⟩,⟨gw,gy,cI,cK⟩⟩,⟨⟨fN,fU,cq⟩,gD,gv,⟨gM,gP,fe,gJ,gG⟩,⟨fG,eQ,fH,fE⟩,⟨gx,gz,cJ,cL⟩⟩⟩=ae) <| K (.a (VM.d (vv ⟨⟨⟨fO,fW,cu⟩,gC,gu,⟨gL,gN,fP,gH,gE⟩,⟨fF,eM,fg,fC⟩,⟨gw,gy,cI,cK⟩⟩,⟨⟨fN,fU,cq⟩,gD,gv,⟨gM,gP,fe,gJ,gG⟩,⟨fG,eQ,fH,fE⟩,⟨gx,gz,cJ,cL⟩⟩⟩)))
theorem Tq:ji al.prog 73 [Pf] zaa:=by
 refine bh (TR:=XX) aS aH Le (Rn.fM Tryz.func73) rfl ?_
 dsimp only[DA,HL,Sh.T]
 rintro⟨⟨fO,fW,cu,gC,gu,gL,gN,fP,gH,gE,fF,eM,fg,fC,gw,gy,cI,cK,fN,fU,cq,gD,gv,gM,gP,fe,gJ,gG,fG,eQ,fH,fE,gx,gz,cJ,cL,_⟩,_⟩ K ⟨hv,hK⟩ ⟨⟨_,_,_,_,_,_,_,h1,_,_,_,h2,_,_,_,_,_,_,_,_,_,_,_,_,_,h3,_,_,_,h4,_⟩,_⟩
 replace hK:K (.a (VM.d (vv ⟨⟨⟨fO,fW,cu⟩,gC,gu,⟨gL,gN,fP,gH,gE⟩,⟨fF,eM,fg,fC⟩,⟨gw,gy,cI,cK⟩⟩,⟨⟨fN,fU,cq⟩,gD,gv,⟨gM,gP,fe,gJ,gG⟩,⟨fG,eQ,fH,fE⟩,⟨gx,gz,cJ,cL⟩⟩⟩))):=hK
 replace hv:xf ⟨⟨⟨fO,fW,cu⟩,gC,gu,⟨gL,gN,fP,gH,gE⟩,⟨fF,eM,fg,fC⟩,⟨gw,gy,cI,cK⟩⟩,⟨⟨fN,fU,cq⟩,gD,gv,⟨gM,gP,fe,gJ,gG⟩,⟨fG,eQ,fH,fE⟩,⟨gx,gz,cJ,cL⟩⟩⟩=ae:=hv
 replace h1:=gl fP h1
 replace h2:=gl eM h2
 replace h3:=gl fe h3
 replace h4:=gl eQ h4
 obtain⟨va,vb⟩:=W4 hv
 dsimp only at va vb
 obtain⟨a1,a2,a3,a4,a5⟩:=dV va
 obtain⟨b1,b2,b3,b4,b5⟩:=dV vb
 dsimp only at a1 a2 a3 a4 a5 b1 b2 b3 b4 b5
 have fa:=(yY a1).1
 have fb:=(yY b1).1
 dsimp only at fa fb
 have ga:zcW (iu ⟨fF,eM,fg,fC⟩).2:=xM a5
 have gb:zcW (iu ⟨fG,eQ,fH,fE⟩).2:=xM b5
 have qa:eS ⟨⟨fO,fW,cu⟩,gC,gu,⟨gL,gN,fP,gH,gE⟩,⟨(iu ⟨fF,eM,fg,fC⟩).1.room,(iu ⟨fF,eM,fg,fC⟩).1.items,(iu ⟨fF,eM,fg,fC⟩).1.shift,(iu ⟨fF,eM,fg,fC⟩).1.left⟩,⟨gw,gy,cI,cK⟩⟩=ae:=jz a1 a2 a3 a4 (Fy a5)
 have qb:eS ⟨⟨fN,fU,cq⟩,gD,gv,⟨gM,gP,fe,gJ,gG⟩,⟨(iu ⟨fG,eQ,fH,fE⟩).1.room,(iu ⟨fG,eQ,fH,fE⟩).1.items,(iu ⟨fG,eQ,fH,fE⟩).1.shift,(iu ⟨fG,eQ,fH,fE⟩).1.left⟩,⟨gx,gz,cJ,cL⟩⟩=ae:=jz b1 b2 b3 b4 (Fy b5)
 rw[show vv ⟨⟨⟨fO,fW,cu⟩,gC,gu,⟨gL,gN,fP,gH,gE⟩,⟨fF,eM,fg,fC⟩,⟨gw,gy,cI,cK⟩⟩,⟨⟨fN,fU,cq⟩,gD,gv,⟨gM,gP,fe,gJ,gG⟩,⟨fG,eQ,fH,fE⟩,⟨gx,gz,cJ,cL⟩⟩⟩=⟨⟨⟨fO,fW,cu⟩,gC,gu,oK ⟨gL,gN,fP,gH,gE⟩ ⟨fO,fW,cu⟩ ⟨fN,fU,cq⟩ (iu ⟨fG,eQ,fH,fE⟩).2,(iu ⟨fF,eM,fg,fC⟩).1,M0 ⟨gw,gy,cI,cK⟩ gv⟩,⟨⟨fN,fU,cq⟩,gD,gv,oK ⟨gM,gP,fe,gJ,gG⟩ ⟨fN,fU,cq⟩ ⟨fO,fW,cu⟩ (iu ⟨fF,eM,fg,fC⟩).2,(iu ⟨fG,eQ,fH,fE⟩).1,M0 ⟨gx,gz,cJ,cL⟩ gu⟩⟩ from rfl] at hK
 repeat' (conv=>whnf);first|refine az.mk ?_ ?_;exact gS|refine End.mk ?_|apply gU;exact gA|refine gB ?_ ?_<;>intro hb h<;>try exact c8
 all_goals
  (refine gI hK ?_;repeat' first|exact gR|refine az.mk ?_ ?_)
theorem Rz:ji al.prog 73 [Pf] (λ⟨⟨fO,fW,cu,gC,gu,gL,gN,fP,gH,gE,fF,eM,fg,fC,gw,gy,cI,cK,fN,fU,cq,gD,gv,gM,gP,fe,gJ,gG,fG,eQ,fH,fE,gx,gz,cJ,cL,_⟩,_⟩ K=>az (xf ⟨⟨⟨fO,fW,cu⟩,gC,gu,⟨gL,gN,fP,gH,gE⟩,⟨fF,eM,fg,fC⟩,⟨gw,gy,cI,cK⟩⟩,⟨⟨fN,fU,cq⟩,gD,gv,⟨gM,gP,fe,gJ,gG⟩,⟨fG,eQ,fH,fE⟩,⟨gx,gz,cJ,cL⟩⟩⟩=ae) <| ∀x:VM,x=vv ⟨⟨⟨fO,fW,cu⟩,gC,gu,⟨gL,gN,fP,gH,gE⟩,⟨fF,eM,fg,fC⟩,⟨gw,gy,cI,cK⟩⟩,⟨⟨fN,fU,cq⟩,gD,gv,⟨gM,gP,fe,gJ,gG⟩,⟨fG,eQ,fH,fE⟩,⟨gx,gz,cJ,cL⟩⟩⟩->K (.a (VM.d x))):=by
 dsimp only[DA,HL,Sh.T]
 rintro⟨⟨fO,fW,cu,gC,gu,gL,gN,fP,gH,gE,fF,eM,fg,fC,gw,gy,cI,cK,fN,fU,cq,gD,gv,gM,gP,fe,gJ,gG,fG,eQ,fH,fE,gx,gz,cJ,cL,_⟩,_⟩ K ⟨hv,hK⟩ w vs hr hg
 exact Tq (⟨fO,fW,cu,gC,gu,gL,gN,fP,gH,gE,fF,eM,fg,fC,gw,gy,cI,cK,fN,fU,cq,gD,gv,gM,gP,fe,gJ,gG,fG,eQ,fH,fE,gx,gz,cJ,cL,_⟩,()) K ⟨hv,hK _ rfl⟩ w vs hr hg
def HY:CS:=dn [Pf] (λ⟨⟨fO,fW,cu,gC,gu,gL,gN,fP,gH,gE,fF,eM,fg,fC,gw,gy,cI,cK,fN,fU,cq,gD,gv,gM,gP,fe,gJ,gG,fG,eQ,fH,fE,gx,gz,cJ,cL,_⟩,_⟩ K=>az (xf ⟨⟨⟨fO,fW,cu⟩,gC,gu,⟨gL,gN,fP,gH,gE⟩,⟨fF,eM,fg,fC⟩,⟨gw,gy,cI,cK⟩⟩,⟨⟨fN,fU,cq⟩,gD,gv,⟨gM,gP,fe,gJ,gG⟩,⟨fG,eQ,fH,fE⟩,⟨gx,gz,cJ,cL⟩⟩⟩=ae) <| ∀x:VM,x=vv ⟨⟨⟨fO,fW,cu⟩,gC,gu,⟨gL,gN,fP,gH,gE⟩,⟨fF,eM,fg,fC⟩,⟨gw,gy,cI,cK⟩⟩,⟨⟨fN,fU,cq⟩,gD,gv,⟨gM,gP,fe,gJ,gG⟩,⟨fG,eQ,fH,fE⟩,⟨gx,gz,cJ,cL⟩⟩⟩->K (.a (VM.d x)))
theorem Nk:bW al.prog 73 HY:=UE gK Rz
theorem NP:ji al.prog 74 [oc] (λ⟨⟨fb,fq,fst,pe,pc,rr,rt,rl,ro,ra,sr,sl,ss,sf,mc,mh,cy,cz,qi,qo,cw,cl,_⟩,_⟩ K=>az (jj ⟨⟨⟨fb,fq,fst⟩,pe,pc,⟨rr,rt,rl,ro,ra⟩,⟨sr,sl,ss,sf⟩,⟨mc,mh,cy,cz⟩⟩,qi,qo,cw,cl⟩=ae) <| ∀(y:iY) (n:Int),y=(dA 40 ⟨⟨⟨fb,fq,fst⟩,pe,pc,⟨rr,rt,rl,ro,ra⟩,⟨sr,sl,ss,sf⟩,⟨mc,mh,cy,cz⟩⟩,qi,qo,cw,cl⟩).1->K (.t [.inr (iY.d y),.inl (.v (.int .i64 n))])):=by
 dsimp only[DA,HL,Sh.T]
 rintro⟨⟨fb,fq,fst,pe,pc,rr,rt,rl,ro,ra,sr,sl,ss,sf,mc,mh,cy,cz,qi,qo,cw,cl,_⟩,_⟩ K ⟨hv,hK⟩ w vs hr hg
 exact RE (⟨fb,fq,fst,pe,pc,rr,rt,rl,ro,ra,sr,sl,ss,sf,mc,mh,cy,cz,qi,qo,cw,cl,_⟩,()) K ⟨hv,hK _ _ rfl⟩ w vs hr hg
def Ef:CS:=dn [oc] (λ⟨⟨fb,fq,fst,pe,pc,rr,rt,rl,ro,ra,sr,sl,ss,sf,mc,mh,cy,cz,qi,qo,cw,cl,_⟩,_⟩ K=>az (jj ⟨⟨⟨fb,fq,fst⟩,pe,pc,⟨rr,rt,rl,ro,ra⟩,⟨sr,sl,ss,sf⟩,⟨mc,mh,cy,cz⟩⟩,qi,qo,cw,cl⟩=ae) <| ∀(y:iY) (n:Int),y=(dA 40 ⟨⟨⟨fb,fq,fst⟩,pe,pc,⟨rr,rt,rl,ro,ra⟩,⟨sr,sl,ss,sf⟩,⟨mc,mh,cy,cz⟩⟩,qi,qo,cw,cl⟩).1->K (.t [.inr (iY.d y),.inl (.v (.int .i64 n))]))
theorem Kr:bW al.prog 74 Ef:=UE gK NP
theorem RD:ji al.prog 54 [oc] (λ⟨⟨fb,fq,fst,pe,pc,rr,rt,rl,ro,ra,sr,sl,ss,sf,mc,mh,cy,cz,qi,qo,cw,cl,_⟩,_⟩ K=>K (.a [.v (.int .i64 fb),.v (.int .i64 fq),.v (.int .i64 fst),.v (.int .i64 pe),.v (.int .i64 pc),.v (.int .i64 rr),.v (.int .i64 rt),.s 96 (.bK rl),.v (.bool ro),.v (.int .i64 ra),.v (.int .i64 sr),.s 3 (.ints sl),.v (.int .i64 ss),.v (.int .i64 sf),.v (.bool mc),.v (.bool mh),.v (.bool cy),.v (.bool cz),.s 3 (.ints qi),.s 3 (.ints qo),.v (.int .i64 cw),.v (.int .i64 cl)])):=Ei
def HZ:CS:=dn [oc] (λ⟨⟨fb,fq,fst,pe,pc,rr,rt,rl,ro,ra,sr,sl,ss,sf,mc,mh,cy,cz,qi,qo,cw,cl,_⟩,_⟩ K=>K (.a [.v (.int .i64 fb),.v (.int .i64 fq),.v (.int .i64 fst),.v (.int .i64 pe),.v (.int .i64 pc),.v (.int .i64 rr),.v (.int .i64 rt),.s 96 (.bK rl),.v (.bool ro),.v (.int .i64 ra),.v (.int .i64 sr),.s 3 (.ints sl),.v (.int .i64 ss),.v (.int .i64 sf),.v (.bool mc),.v (.bool mh),.v (.bool cy),.v (.bool cz),.s 3 (.ints qi),.s 3 (.ints qo),.v (.int .i64 cw),.v (.int .i64 cl)]))
theorem Nl:bW al.prog 54 HZ:=UE gK RD
def TY:Env:=[(54,HZ),(73,HY),(74,Ef)]
theorem Lj:bg al.prog TY:=aC ⟨Nl,Nk,Kr,trivial⟩
def MK:DA [qx]->(DV->Prop)->Prop:=λ⟨⟨fO,fW,cu,gC,gu,gL,gN,fP,gH,gE,fF,eM,fg,fC,gw,gy,cI,cK,lL,lJ,nc,m9,fN,fU,cq,gD,gv,gM,gP,fe,gJ,gG,fG,eQ,fH,fE,gx,gz,cJ,cL,ll,lM,ng,na,_⟩,_⟩ K=>az (ov ⟨⟨⟨⟨fO,fW,cu⟩,gC,gu,⟨gL,gN,fP,gH,gE⟩,⟨fF,eM,fg,fC⟩,⟨gw,gy,cI,cK⟩⟩,lL,lJ,nc,m9⟩,⟨⟨⟨fN,fU,cq⟩,gD,gv,⟨gM,gP,fe,gJ,gG⟩,⟨fG,eQ,fH,fE⟩,⟨gx,gz,cJ,cL⟩⟩,ll,lM,ng,na⟩⟩=ae) <| ∀x:yx,x=AZ ⟨⟨⟨⟨fO,fW,cu⟩,gC,gu,⟨gL,gN,fP,gH,gE⟩,⟨fF,eM,fg,fC⟩,⟨gw,gy,cI,cK⟩⟩,lL,lJ,nc,m9⟩,⟨⟨⟨fN,fU,cq⟩,gD,gv,⟨gM,gP,fe,gJ,gG⟩,⟨fG,eQ,fH,fE⟩,⟨gx,gz,cJ,cL⟩⟩,ll,lM,ng,na⟩⟩->K (.a (yx.d x))
theorem Tt:ji al.prog 40 [qx] MK:=by
 refine bh (TR:=ja) aS aH Lj (Rn.fM Tryz.func40) rfl ?_
 dsimp only[DA,HL,Sh.T]
 rintro⟨⟨fO,fW,cu,gC,gu,gL,gN,fP,gH,gE,fF,eM,fg,fC,gw,gy,cI,cK,lL,lJ,nc,m9,fN,fU,cq,gD,gv,gM,gP,fe,gJ,gG,fG,eQ,fH,fE,gx,gz,cJ,cL,ll,lM,ng,na,_⟩,_⟩ K ⟨hv,hK⟩ ⟨⟨-,-,-,-,-,-,-,h1,-,-,-,h2,-,-,-,-,-,-,h3,h4,-,-,-,-,-,-,-,-,-,g1,-,-,-,g2,-,-,-,-,-,-,g3,g4,-⟩,-⟩
 replace hK:∀x:yx,x=AZ ⟨⟨⟨⟨fO,fW,cu⟩,gC,gu,⟨gL,gN,fP,gH,gE⟩,⟨fF,eM,fg,fC⟩,⟨gw,gy,cI,cK⟩⟩,lL,lJ,nc,m9⟩,⟨⟨⟨fN,fU,cq⟩,gD,gv,⟨gM,gP,fe,gJ,gG⟩,⟨fG,eQ,fH,fE⟩,⟨gx,gz,cJ,cL⟩⟩,ll,lM,ng,na⟩⟩->K (.a (yx.d x)):=hK
 replace hv:ov ⟨⟨⟨⟨fO,fW,cu⟩,gC,gu,⟨gL,gN,fP,gH,gE⟩,⟨fF,eM,fg,fC⟩,⟨gw,gy,cI,cK⟩⟩,lL,lJ,nc,m9⟩,⟨⟨⟨fN,fU,cq⟩,gD,gv,⟨gM,gP,fe,gJ,gG⟩,⟨fG,eQ,fH,fE⟩,⟨gx,gz,cJ,cL⟩⟩,ll,lM,ng,na⟩⟩=ae:=hv
 replace h1:=gl fP h1
 replace h2:=gl eM h2
 replace h3:=gl lL h3
 replace h4:=gl lJ h4
 replace g1:=gl fe g1
 replace g2:=gl eQ g2
 replace g3:=gl ll g3
 replace g4:=gl lM g4
 obtain⟨ha,hb⟩:=yZ hv
 have pa:=(fu ha).1
 have pb:=(fu hb).1
 have hp:xf ⟨⟨⟨fO,fW,cu⟩,gC,gu,⟨gL,gN,fP,gH,gE⟩,⟨fF,eM,fg,fC⟩,⟨gw,gy,cI,cK⟩⟩,⟨⟨fN,fU,cq⟩,gD,gv,⟨gM,gP,fe,gJ,gG⟩,⟨fG,eQ,fH,fE⟩,⟨gx,gz,cJ,cL⟩⟩⟩=ae:=by
  rw[xf,aE]
  exact⟨pa,pb⟩
 have va0:=tY (d:=⟨⟨⟨fO,fW,cu⟩,gC,gu,⟨gL,gN,fP,gH,gE⟩,⟨fF,eM,fg,fC⟩,⟨gw,gy,cI,cK⟩⟩,lL,lJ,nc,m9⟩) (q:=⟨⟨fN,fU,cq⟩,gD,gv,⟨gM,gP,fe,gJ,gG⟩,⟨fG,eQ,fH,fE⟩,⟨gx,gz,cJ,cL⟩⟩) ha pb
 have vb0:=tY (d:=⟨⟨⟨fN,fU,cq⟩,gD,gv,⟨gM,gP,fe,gJ,gG⟩,⟨fG,eQ,fH,fE⟩,⟨gx,gz,cJ,cL⟩⟩,ll,lM,ng,na⟩) (q:=⟨⟨fO,fW,cu⟩,gC,gu,⟨gL,gN,fP,gH,gE⟩,⟨fF,eM,fg,fC⟩,⟨gw,gy,cI,cK⟩⟩) hb pa
 have va:jj ⟨(vv ⟨⟨⟨fO,fW,cu⟩,gC,gu,⟨gL,gN,fP,gH,gE⟩,⟨fF,eM,fg,fC⟩,⟨gw,gy,cI,cK⟩⟩,⟨⟨fN,fU,cq⟩,gD,gv,⟨gM,gP,fe,gJ,gG⟩,⟨fG,eQ,fH,fE⟩,⟨gx,gz,cJ,cL⟩⟩⟩).a,lL,lJ,nc,m9⟩=ae:=va0
 have vb:jj ⟨(vv ⟨⟨⟨fO,fW,cu⟩,gC,gu,⟨gL,gN,fP,gH,gE⟩,⟨fF,eM,fg,fC⟩,⟨gw,gy,cI,cK⟩⟩,⟨⟨fN,fU,cq⟩,gD,gv,⟨gM,gP,fe,gJ,gG⟩,⟨fG,eQ,fH,fE⟩,⟨gx,gz,cJ,cL⟩⟩⟩).b,ll,lM,ng,na⟩=ae:=vb0
 clear va0 vb0
 clear hv ha hb pa pb
 repeat' (conv=>whnf);first|refine az.mk ?_ ?_;exact gS|refine End.mk ?_|apply gU;exact gA|refine gB ?_ ?_<;>intro hb h<;>try exact c8|refine λ(y:Int) (h0:0<=y) h1=>?_
 intro x hx
 rw[<-hx] at va vb
 repeat' (conv=>whnf);first|refine az.mk ?_ ?_;exact gS|refine End.mk ?_|apply gU;exact gA|refine gB ?_ ?_<;>intro hb h<;>try exact c8|refine λ(y:Int) (h0:0<=y) h1=>?_
 intro y n hy
 repeat' (conv=>whnf);first|refine az.mk ?_ ?_;exact gS|refine End.mk ?_|apply gU;exact gA|refine gB ?_ ?_<;>intro hb h<;>try exact c8|refine λ(y:Int) (h0:0<=y) h1=>?_
 intro z m hz
 repeat' (conv=>whnf);first|refine az.mk ?_ ?_;exact gS|refine End.mk ?_|apply gU;exact gA|refine gB ?_ ?_<;>intro hb h<;>try exact c8|refine λ(y:Int) (h0:0<=y) h1=>?_
 have hK2:=hK ⟨y,z⟩ (by
  rw[hx] at hy hz
  unfold AZ
  rw[hy,hz]
  rfl)
 clear hK
 have hK:=hK2
 all_goals exact gF hK
def Bq:CS:=dn [qx] MK
theorem BO:bW al.prog 40 Bq:=bH Tt
def zrQ(x:yx)(a b c d a2 b2 c2 d2:Nat):List LV:=[.v (.int .i64 x.a.p.f.bits),.v (.int .i64 x.a.p.f.par),.v (.int .i64 x.a.p.f.stop),.v (.int .i64 x.a.p.en),.v (.int .i64 x.a.p.co),
 .v (.int .i64 x.a.p.rc.room),.v (.int .i64 x.a.p.rc.mL),.s a 0,.v (.bool x.a.p.rc.lost),.v (.int .i64 x.a.p.rc.Sy),
 .v (.int .i64 x.a.p.sd.room),.s b 0,.v (.int .i64 x.a.p.sd.shift),.v (.int .i64 x.a.p.sd.left),
 .v (.bool x.a.p.md.c),.v (.bool x.a.p.md.h),.v (.bool x.a.p.md.cc),.v (.bool x.a.p.md.hc),.s c 0,.s d 0,.v (.int .i64 x.a.jW),.v (.int .i64 x.a.lost),
 .v (.int .i64 x.b.p.f.bits),.v (.int .i64 x.b.p.f.par),.v (.int .i64 x.b.p.f.stop),.v (.int .i64 x.b.p.en),.v (.int .i64 x.b.p.co),
 .v (.int .i64 x.b.p.rc.room),.v (.int .i64 x.b.p.rc.mL),.s a2 0,.v (.bool x.b.p.rc.lost),.v (.int .i64 x.b.p.rc.Sy),
 .v (.int .i64 x.b.p.sd.room),.s b2 0,.v (.int .i64 x.b.p.sd.shift),.v (.int .i64 x.b.p.sd.left),
 .v (.bool x.b.p.md.c),.v (.bool x.b.p.md.h),.v (.bool x.b.p.md.cc),.v (.bool x.b.p.md.hc),.s c2 0,.s d2 0,.v (.int .i64 x.b.jW),.v (.int .i64 x.b.lost)]
def TJ:Env:=[(39,wS),(56,mj),(54,vG),(40,Bq)]
theorem KZ:bg al.prog TJ:=aC ⟨xZ,iW,uE,BO,trivial⟩
def XQ:Nat->Tr:=λ n=>match n with
 |3=>.op 0 0 (.op 1 0 (.op 3 0 (.op 4 0 (.fork 2 1 (.fork 5 1 (.op 6 0 (.op 7 1 (.op 8 2 (.nil)))) 7 1 (.op 5 1 (.op 6 1 (.op 8 2 (.nil))))) 7 1 (.op 2 1 (.op 5 1 (.op 6 1 (.op 8 2 (.nil)))))))))
 |_=>.nil
def My:DA [qx,.inl .int]->(DV->Prop)->Prop:=λ⟨⟨fO,fW,cu,gC,gu,gL,gN,fP,gH,gE,fF,eM,fg,fC,gw,gy,cI,cK,lL,lJ,nc,m9,fN,fU,cq,gD,gv,gM,gP,fe,gJ,gG,fG,eQ,fH,fE,gx,gz,cJ,cL,ll,lM,ng,na,_⟩,t,_⟩ K=>K (GJ ⟨⟨⟨⟨fO,fW,cu⟩,gC,gu,⟨gL,gN,fP,gH,gE⟩,⟨fF,eM,fg,fC⟩,⟨gw,gy,cI,cK⟩⟩,lL,lJ,nc,m9⟩,⟨⟨⟨fN,fU,cq⟩,gD,gv,⟨gM,gP,fe,gJ,gG⟩,⟨fG,eQ,fH,fE⟩,⟨gx,gz,cJ,cL⟩⟩,ll,lM,ng,na⟩⟩ t).d
theorem Tf:ji al.prog 24 [qx,.inl .int] My:=by
 refine bh (TR:=XQ) aS aH KZ (Rn.fM Tryz.func24) rfl ?_
 dsimp only[DA,HL,Sh.T]
 rintro⟨⟨fO,fW,cu,gC,gu,gL,gN,fP,gH,gE,fF,eM,fg,fC,gw,gy,cI,cK,lL,lJ,nc,m9,fN,fU,cq,gD,gv,gM,gP,fe,gJ,gG,fG,eQ,fH,fE,gx,gz,cJ,cL,ll,lM,ng,na,_⟩,t,_⟩ K hK ⟨⟨-,-,-,-,-,-,-,h1,-,-,-,h2,-,-,-,-,-,-,h3,h4,-,-,-,-,-,-,-,-,-,g1,-,-,-,g2,-,-,-,-,-,-,g3,g4,-⟩,-⟩
 dsimp only[My] at hK
 replace h1:=gl fP h1
 replace h2:=gl eM h2
 replace h3:=gl lL h3
 replace h4:=gl lJ h4
 replace g1:=gl fe g1
 replace g2:=gl eQ g2
 replace g3:=gl ll g3
 replace g4:=gl lM g4
 by_cases hv:ov ⟨⟨⟨⟨fO,fW,cu⟩,gC,gu,⟨gL,gN,fP,gH,gE⟩,⟨fF,eM,fg,fC⟩,⟨gw,gy,cI,cK⟩⟩,lL,lJ,nc,m9⟩,⟨⟨⟨fN,fU,cq⟩,gD,gv,⟨gM,gP,fe,gJ,gG⟩,⟨fG,eQ,fH,fE⟩,⟨gx,gz,cJ,cL⟩⟩,ll,lM,ng,na⟩⟩=ae/\0<=t/\t<=150
 ·rw[show GJ ⟨⟨⟨⟨fO,fW,cu⟩,gC,gu,⟨gL,gN,fP,gH,gE⟩,⟨fF,eM,fg,fC⟩,⟨gw,gy,cI,cK⟩⟩,lL,lJ,nc,m9⟩,⟨⟨⟨fN,fU,cq⟩,gD,gv,⟨gM,gP,fe,gJ,gG⟩,⟨fG,eQ,fH,fE⟩,⟨gx,gz,cJ,cL⟩⟩,ll,lM,ng,na⟩⟩ t=⟨vq t.toNat ⟨⟨⟨⟨fO,fW,cu⟩,gC,gu,⟨gL,gN,fP,gH,gE⟩,⟨fF,eM,fg,fC⟩,⟨gw,gy,cI,cK⟩⟩,lL,lJ,nc,m9⟩,⟨⟨⟨fN,fU,cq⟩,gD,gv,⟨gM,gP,fe,gJ,gG⟩,⟨fG,eQ,fH,fE⟩,⟨gx,gz,cJ,cL⟩⟩,ll,lM,ng,na⟩⟩,ae⟩ by unfold GJ;rw[if_pos hv]] at hK
  obtain⟨hv,h0,h9⟩:=hv
  have hrv:=Fo hv
  repeat' (conv=>whnf);first|refine az.mk ?_ ?_;exact gS|refine Fork.mk ?_ ?_;exact ER|refine End.mk ?_|apply gU;exact gA|refine gB ?_ ?_<;>intro hb h<;>try exact c8
  ·exfalso
   have h':(¬(0:Int)<=t)\/¬t<=(150:Int):=by assumption
   omega
  refine iK.inv {k:Nat // (k:Int)<=t} (λ⟨k,_⟩=>[(19,.j),(22,.j),(23,.j),(7,.l (.v (.int .i64 k)))]) (λ⟨k,_⟩=>[(2,.b (zrQ (vq k ⟨⟨⟨⟨fO,fW,cu⟩,gC,gu,⟨gL,gN,fP,gH,gE⟩,⟨fF,eM,fg,fC⟩,⟨gw,gy,cI,cK⟩⟩,lL,lJ,nc,m9⟩,⟨⟨⟨fN,fU,cq⟩,gD,gv,⟨gM,gP,fe,gJ,gG⟩,⟨fG,eQ,fH,fE⟩,⟨gx,gz,cJ,cL⟩⟩,ll,lM,ng,na⟩⟩) 3 4 5 6 7 8 9 10) 38),(3,.r 0 96 (.bK (vq k ⟨⟨⟨⟨fO,fW,cu⟩,gC,gu,⟨gL,gN,fP,gH,gE⟩,⟨fF,eM,fg,fC⟩,⟨gw,gy,cI,cK⟩⟩,lL,lJ,nc,m9⟩,⟨⟨⟨fN,fU,cq⟩,gD,gv,⟨gM,gP,fe,gJ,gG⟩,⟨fG,eQ,fH,fE⟩,⟨gx,gz,cJ,cL⟩⟩,ll,lM,ng,na⟩⟩).a.p.rc.items)),(4,.r 0 3 (.ints (vq k ⟨⟨⟨⟨fO,fW,cu⟩,gC,gu,⟨gL,gN,fP,gH,gE⟩,⟨fF,eM,fg,fC⟩,⟨gw,gy,cI,cK⟩⟩,lL,lJ,nc,m9⟩,⟨⟨⟨fN,fU,cq⟩,gD,gv,⟨gM,gP,fe,gJ,gG⟩,⟨fG,eQ,fH,fE⟩,⟨gx,gz,cJ,cL⟩⟩,ll,lM,ng,na⟩⟩).a.p.sd.items)),(5,.r 0 3 (.ints (vq k ⟨⟨⟨⟨fO,fW,cu⟩,gC,gu,⟨gL,gN,fP,gH,gE⟩,⟨fF,eM,fg,fC⟩,⟨gw,gy,cI,cK⟩⟩,lL,lJ,nc,m9⟩,⟨⟨⟨fN,fU,cq⟩,gD,gv,⟨gM,gP,fe,gJ,gG⟩,⟨fG,eQ,fH,fE⟩,⟨gx,gz,cJ,cL⟩⟩,ll,lM,ng,na⟩⟩).a.tp)),(6,.r 0 3 (.ints (vq k ⟨⟨⟨⟨fO,fW,cu⟩,gC,gu,⟨gL,gN,fP,gH,gE⟩,⟨fF,eM,fg,fC⟩,⟨gw,gy,cI,cK⟩⟩,lL,lJ,nc,m9⟩,⟨⟨⟨fN,fU,cq⟩,gD,gv,⟨gM,gP,fe,gJ,gG⟩,⟨fG,eQ,fH,fE⟩,⟨gx,gz,cJ,cL⟩⟩,ll,lM,ng,na⟩⟩).a.out)),(7,.r 0 96 (.bK (vq k ⟨⟨⟨⟨fO,fW,cu⟩,gC,gu,⟨gL,gN,fP,gH,gE⟩,⟨fF,eM,fg,fC⟩,⟨gw,gy,cI,cK⟩⟩,lL,lJ,nc,m9⟩,⟨⟨⟨fN,fU,cq⟩,gD,gv,⟨gM,gP,fe,gJ,gG⟩,⟨fG,eQ,fH,fE⟩,⟨gx,gz,cJ,cL⟩⟩,ll,lM,ng,na⟩⟩).b.p.rc.items)),(8,.r 0 3 (.ints (vq k ⟨⟨⟨⟨fO,fW,cu⟩,gC,gu,⟨gL,gN,fP,gH,gE⟩,⟨fF,eM,fg,fC⟩,⟨gw,gy,cI,cK⟩⟩,lL,lJ,nc,m9⟩,⟨⟨⟨fN,fU,cq⟩,gD,gv,⟨gM,gP,fe,gJ,gG⟩,⟨fG,eQ,fH,fE⟩,⟨gx,gz,cJ,cL⟩⟩,ll,lM,ng,na⟩⟩).b.p.sd.items)),(9,.r 0 3 (.ints (vq k ⟨⟨⟨⟨fO,fW,cu⟩,gC,gu,⟨gL,gN,fP,gH,gE⟩,⟨fF,eM,fg,fC⟩,⟨gw,gy,cI,cK⟩⟩,lL,lJ,nc,m9⟩,⟨⟨⟨fN,fU,cq⟩,gD,gv,⟨gM,gP,fe,gJ,gG⟩,⟨fG,eQ,fH,fE⟩,⟨gx,gz,cJ,cL⟩⟩,ll,lM,ng,na⟩⟩).b.tp)),(10,.r 0 3 (.ints (vq k ⟨⟨⟨⟨fO,fW,cu⟩,gC,gu,⟨gL,gN,fP,gH,gE⟩,⟨fF,eM,fg,fC⟩,⟨gw,gy,cI,cK⟩⟩,lL,lJ,nc,m9⟩,⟨⟨⟨fN,fU,cq⟩,gD,gv,⟨gM,gP,fe,gJ,gG⟩,⟨fG,eQ,fH,fE⟩,⟨gx,gz,cJ,cL⟩⟩,ll,lM,ng,na⟩⟩).b.out))]) (λ⟨k,_⟩=>(t-k).toNat) ⟨0,by omega⟩ [0,1,2,3,4,5,6,7,8,9,10] ?_ ?_
  ·repeat' first|refine az.mk ?_ ?_;exact gV|exact aV
  rintro⟨k,hk⟩
  have hvk:=hrv k
  repeat' (conv=>whnf);first|refine az.mk ?_ ?_;exact gS|refine End.mk ?_|apply gU;exact gA|refine gB ?_ ?_<;>intro hb h<;>try exact c8
  ·intro x hx
   have hx2:x=vq (k+1) ⟨⟨⟨⟨fO,fW,cu⟩,gC,gu,⟨gL,gN,fP,gH,gE⟩,⟨fF,eM,fg,fC⟩,⟨gw,gy,cI,cK⟩⟩,lL,lJ,nc,m9⟩,⟨⟨⟨fN,fU,cq⟩,gD,gv,⟨gM,gP,fe,gJ,gG⟩,⟨fG,eQ,fH,fE⟩,⟨gx,gz,cJ,cL⟩⟩,ll,lM,ng,na⟩⟩:=hx
   clear hx
   subst hx2
   repeat' (conv=>whnf);first|refine az.mk ?_ ?_;exact gS|refine End.mk ?_|apply gU;exact gA|refine gB ?_ ?_<;>intro hb h<;>try exact c8
   (refine ao ⟨k+1,by omega⟩ (ao [0,1,2,11,12,13,14,15,16,17,18] (aM ?_ ?_)))
   ·show (t-((k+1:Nat):Int)).toNat<(t-(k:Int)).toNat
    omega
   ·repeat' first|refine az.mk ?_ ?_;exact gV|exact aV
  ·obtain rfl:k=t.toNat:=by omega
   (refine gI hK ?_;repeat' first|exact gR|refine az.mk ?_ ?_)
 ·rw[show GJ ⟨⟨⟨⟨fO,fW,cu⟩,gC,gu,⟨gL,gN,fP,gH,gE⟩,⟨fF,eM,fg,fC⟩,⟨gw,gy,cI,cK⟩⟩,lL,lJ,nc,m9⟩,⟨⟨⟨fN,fU,cq⟩,gD,gv,⟨gM,gP,fe,gJ,gG⟩,⟨fG,eQ,fH,fE⟩,⟨gx,gz,cJ,cL⟩⟩,ll,lM,ng,na⟩⟩ t=⟨Yu,aa⟩ by unfold GJ;rw[if_neg hv]] at hK
  by_cases hp:ov ⟨⟨⟨⟨fO,fW,cu⟩,gC,gu,⟨gL,gN,fP,gH,gE⟩,⟨fF,eM,fg,fC⟩,⟨gw,gy,cI,cK⟩⟩,lL,lJ,nc,m9⟩,⟨⟨⟨fN,fU,cq⟩,gD,gv,⟨gM,gP,fe,gJ,gG⟩,⟨fG,eQ,fH,fE⟩,⟨gx,gz,cJ,cL⟩⟩,ll,lM,ng,na⟩⟩=ae
  ·have ht:¬(0<=t/\t<=150):=λ h=>hv ⟨hp,h⟩
   repeat' (conv=>whnf);first|refine az.mk ?_ ?_;exact gS|refine Fork.mk ?_ ?_;exact ER|refine End.mk ?_|apply gU;exact gA|refine gB ?_ ?_<;>intro hb h<;>try exact c8
   all_goals first
    |(exfalso;have h':(0:Int)<=t/\t<=(150:Int):=(by assumption);omega)
    |(exact gF hK)
  ·replace hp:ov ⟨⟨⟨⟨fO,fW,cu⟩,gC,gu,⟨gL,gN,fP,gH,gE⟩,⟨fF,eM,fg,fC⟩,⟨gw,gy,cI,cK⟩⟩,lL,lJ,nc,m9⟩,⟨⟨⟨fN,fU,cq⟩,gD,gv,⟨gM,gP,fe,gJ,gG⟩,⟨fG,eQ,fH,fE⟩,⟨gx,gz,cJ,cL⟩⟩,ll,lM,ng,na⟩⟩=aa:=by simpa using hp
   exact gWf
def GK(x:yx):SG:=if ov x then ⟨AZ x,ae⟩ else ⟨Yu,aa⟩
theorem Hj{x:yx}(h:ov x=ae):GK x=⟨AZ x,ae⟩:=by simp[GK,h]
theorem Hi{x:yx}(h:ov x=aa):GK x=⟨Yu,aa⟩:=by simp[GK,h]
theorem PZ{d:iY}(h:jj d=ae):oy d=⟨(dA 40 d).1,(dA 40 d).2,ae⟩:=by simp[oy,h]
def RL:Env:=[(42,D5),(43,LZ),(44,YZ),(45,zdi)]
theorem IT:bg al.prog RL:=aC ⟨Kh,QQ,ZS,zbt,trivial⟩
def Ui:Nat->Tr:=λ n=>match n with
 |3=>.op 0 0 (.op 1 0 (.op 2 0 (.op 3 0 (.fork 4 1 (.op 5 1 (.op 6 1 (.op 7 2 (.nil)))) 5 1 (.op 4 1 (.op 6 1 (.op 7 2 (.nil))))))))
 |4=>.fork 0 1 (.fork 1 1 (.op 2 2 (.op 3 2 (.nil))) 2 1 (.op 1 1 (.op 3 2 (.nil)))) 1 1 (.op 0 1 (.op 2 2 (.op 3 2 (.nil))))
 |_=>.nil
def XI:DA [Pf]->(DV->Prop)->Prop:=λ⟨⟨fO,fW,cu,gC,gu,gL,gN,fP,gH,gE,fF,eM,fg,fC,gw,gy,cI,cK,fN,fU,cq,gD,gv,gM,gP,fe,gJ,gG,fG,eQ,fH,fE,gx,gz,cJ,cL,_⟩,_⟩ K=>K (yN ⟨⟨⟨fO,fW,cu⟩,gC,gu,⟨gL,gN,fP,gH,gE⟩,⟨fF,eM,fg,fC⟩,⟨gw,gy,cI,cK⟩⟩,⟨⟨fN,fU,cq⟩,gD,gv,⟨gM,gP,fe,gJ,gG⟩,⟨fG,eQ,fH,fE⟩,⟨gx,gz,cJ,cL⟩⟩⟩).d
theorem Rb:ji al.prog 16 [Pf] XI:=by
 refine bh (TR:=Ui) aS aH IT (Rn.fM Tryz.func16) rfl ?_
 dsimp only[DA,HL,Sh.T]
 rintro⟨⟨fO,fW,cu,gC,gu,gL,gN,fP,gH,gE,fF,eM,fg,fC,gw,gy,cI,cK,fN,fU,cq,gD,gv,gM,gP,fe,gJ,gG,fG,eQ,fH,fE,gx,gz,cJ,cL,_⟩,_⟩ K hK _
 dsimp only[XI] at hK
 cases hv:xf ⟨⟨⟨fO,fW,cu⟩,gC,gu,⟨gL,gN,fP,gH,gE⟩,⟨fF,eM,fg,fC⟩,⟨gw,gy,cI,cK⟩⟩,⟨⟨fN,fU,cq⟩,gD,gv,⟨gM,gP,fe,gJ,gG⟩,⟨fG,eQ,fH,fE⟩,⟨gx,gz,cJ,cL⟩⟩⟩ with
 |false=>
  rw[show yN ⟨⟨⟨fO,fW,cu⟩,gC,gu,⟨gL,gN,fP,gH,gE⟩,⟨fF,eM,fg,fC⟩,⟨gw,gy,cI,cK⟩⟩,⟨⟨fN,fU,cq⟩,gD,gv,⟨gM,gP,fe,gJ,gG⟩,⟨fG,eQ,fH,fE⟩,⟨gx,gz,cJ,cL⟩⟩⟩=⟨zuR,aa⟩ by simp[yN,hv]] at hK
  exact gWf
 |true=>
  obtain⟨va,vb⟩:=W4 hv
  dsimp only at va vb
  obtain⟨a1,a2,a3,a4,a5⟩:=dV va
  obtain⟨b1,b2,b3,b4,b5⟩:=dV vb
  dsimp only at a1 a2 a3 a4 a5 b1 b2 b3 b4 b5
  have ga:(lO ⟨fF,eM,fg,fC⟩).gone=-1\/(0<=(lO ⟨fF,eM,fg,fC⟩).gone/\(lO ⟨fF,eM,fg,fC⟩).gone<=255):=by
   rw[show (lO ⟨fF,eM,fg,fC⟩).gone=(iu ⟨fF,eM,fg,fC⟩).2 by simp[lO,a5]]
   exact xM a5
  have gb:(lO ⟨fG,eQ,fH,fE⟩).gone=-1\/(0<=(lO ⟨fG,eQ,fH,fE⟩).gone/\(lO ⟨fG,eQ,fH,fE⟩).gone<=255):=by
   rw[show (lO ⟨fG,eQ,fH,fE⟩).gone=(iu ⟨fG,eQ,fH,fE⟩).2 by simp[lO,b5]]
   exact xM b5
  have fa:=(yY a1).1
  have fb:=(yY b1).1
  dsimp only at fa fb
  have m1:=zdx fa fb
  have m2:=zdx fb fa
  have p1:=zbj m1
  have p2:=zbj m2
  have w1:=UP (yI fO fN)
  have w2:=UP (yI fN fO)
  have zq8:(!(decide (fN=fO) && (decide (fU=fW) && (decide (cq=cu) && ae))))=(!(decide (fO=fN) && (decide (fW=fU) && (decide (cu=cq) && ae)))):=by
   simp only[eq_comm (a:=fN),eq_comm (a:=fU),eq_comm (a:=cq)]
  cases hq:(!(decide (fO=fN) && (decide (fW=fU) && (decide (cu=cq) && ae))))
  all_goals
   rw[hq] at zq8
   (repeat' ((conv=>whnf);first|refine az.mk ?_ ?_;exact gS|refine Fork.mk ?_ ?_;exact ER|(refine az.mk (λ _ h=>h) ?_)|(refine ao (ab _) (aM (λ _ h=>h) ?_))|(refine ao ak (aM (λ _ h=>h) ?_))|refine End.mk ?_|apply gU;exact gA|refine gB ?_ ?_<;>intro hb h<;>try exact c8))
  all_goals
   rw[zi7 (p:=⟨⟨fO,fW,cu⟩,gC,gu,⟨gL,gN,fP,gH,gE⟩,⟨fF,eM,fg,fC⟩,⟨gw,gy,cI,cK⟩⟩) (q:=⟨⟨fN,fU,cq⟩,gD,gv,⟨gM,gP,fe,gJ,gG⟩,⟨fG,eQ,fH,fE⟩,⟨gx,gz,cJ,cL⟩⟩) hv (by first|exact YS (p:=⟨⟨fO,fW,cu⟩,gC,gu,⟨gL,gN,fP,gH,gE⟩,⟨fF,eM,fg,fC⟩,⟨gw,gy,cI,cK⟩⟩) (g:=(lO ⟨fG,eQ,fH,fE⟩).gone) a4 (by omega)|exact zdc (p:=⟨⟨fO,fW,cu⟩,gC,gu,⟨gL,gN,fP,gH,gE⟩,⟨fF,eM,fg,fC⟩,⟨gw,gy,cI,cK⟩⟩) (f:=⟨fN,fU,cq⟩) (g:=(lO ⟨fG,eQ,fH,fE⟩).gone) a4 m1 (by omega) (by first|exact zhM hq|exact zhN hq)) (by first|exact YS (p:=⟨⟨fN,fU,cq⟩,gD,gv,⟨gM,gP,fe,gJ,gG⟩,⟨fG,eQ,fH,fE⟩,⟨gx,gz,cJ,cL⟩⟩) (g:=(lO ⟨fF,eM,fg,fC⟩).gone) b4 (by omega)|exact zdc (p:=⟨⟨fN,fU,cq⟩,gD,gv,⟨gM,gP,fe,gJ,gG⟩,⟨fG,eQ,fH,fE⟩,⟨gx,gz,cJ,cL⟩⟩) (f:=⟨fO,fW,cu⟩) (g:=(lO ⟨fF,eM,fg,fC⟩).gone) b4 m2 (by omega) (by first|exact zhM zq8|exact zhN zq8))] at hK
   exact gF hK
end
section
open Go.RowKit
def zHW(k:Int):Nat->List Int
 |0=>[]
 |n+1=>k::zHW (k+1) n
theorem ya(k:Int)(n:Nat):(zHW k n).length=n:=by
 induction n generalizing k with
 |zero=>rfl
 |succ n ih=>simp[zHW,ih]
theorem zLP(k:Int)(n i:Nat)(h:i<n):(zHW k n).getD i 0=k+i:=by
 induction n generalizing k i with
 |zero=>omega
 |succ n ih=>
  cases i with
  |zero=>simp[zHW]
  |succ i=>
   have:=ih (k+1) i (by omega)
   simp only[zHW,Db,this]
   omega
variable{w:ai}{n:Nat}
theorem jv.put{base g c:Nat}{l:List Int}(h:jv w base (.slice (ab ⟨g,0,ak⟩) n c) l)(k:Nat)(x:Int):jv (w.setCell ⟨g,k,ak⟩ (.int .i64 x)) base (.slice (ab ⟨g,0,ak⟩) n c) (l.set k x):=by
 obtain⟨-,h2⟩:=h
 refine⟨by simp,?_⟩
 rcases h2 with⟨h2,_⟩|⟨g',cap,cur,he,hb,hg,hn,hm,hs,ht⟩
 ·simp at h2
 ·simp only[b9,aF,Addr.mk.injEq,and_true] at he
  obtain⟨rfl,h3,rfl⟩:=he
  refine .inr ⟨g,c,_,by rw[h3,zNC],hb,ml hg,by rw[zNC];exact hn,hm,by simpa using hs,?_⟩
  rw[zNC,List.map_set,<-ht]
  simp[List.take_set]
theorem jv.at'{base:Nat}{a:Option Addr}{c:Nat}{l:List Int}(h:jv w base (.slice a n c) l){k:Nat}(hk:k<l.length):∃g,a=ab ⟨g,0,ak⟩/\base<=g/\g<w.heap.size/\(∀j,j<l.length->w.cell? ⟨g,j,ak⟩=ab (.int .i64 (l.getD j 0)))/\∀j,w.frozen? ⟨g,j,ak⟩=aa:=by
 obtain⟨_,_,he,hc⟩:=h.ints.form
 simp only[b9] at he
 obtain⟨rfl,rfl,rfl⟩:=he
 rcases h.2 with⟨h2,h3⟩|⟨g,cap,cur,he,hb,hg,_⟩
 ·omega
 ·simp only[b9] at he
  obtain⟨rfl,_⟩:=he
  refine⟨g,rfl,hb,(ah.1 hg).1,λ j hj=>?_,(blk hg).2⟩
  obtain⟨g',off,he,hcell⟩:=hc j hj
  simp only[aF,Addr.mk.injEq,and_true] at he
  obtain⟨rfl,rfl⟩:=he
  simpa using hcell
theorem zLb(l m:List Int)(k:Nat)(hk:k<l.length)(hm:m=l.take k++aX (l.length-k) 0):m.set k (l.getD k 0)=l.take (k+1)++aX (l.length-(k+1)) 0:=by
 subst hm
 rw[List.set_append_right _ _ (by simp;omega),show l.length-k=(l.length-(k+1))+1 by omega,sV,dm,Nat.min_eq_left (by omega),Hv,List.set_cons_zero,show l.take (k+1)=l.take k++[l[k]] by rw[dO,aW hk];rfl,dN,List.singleton_append]
 simp[List.getD,hk]
theorem zLW(l:List Int)(q:Int)(n k:Nat)(hk:k<n)(hn:l.length=n):(zHW q k++l.drop k).set k (q+k)=zHW q (k+1)++l.drop (k+1):=by
 have h1:∀q:Int,∀k:Nat,zHW q (k+1)=zHW q k++[q+k]:=by
  intro q k
  induction k generalizing q with
  |zero=>simp[zHW]
  |succ k ih=>
   rw[zHW,ih (q+1)]
   simp only[zHW,jR]
   congr 3
   omega
 rw[List.set_append_right _ _ (by rw[ya];omega),ya,Hv,iz (by omega),List.set_cons_zero,h1]
 simp
theorem zLA(v:aj)(l:List Int)(q:Int)(base:Nat)(w:ai)(hv:jv w base v l)(hl:l.length<=1099511627776)(h0:0<=q)(h1:q<=1099511627776):
  fV al.prog 101 #[v,.int .i64 q] w λ e w'=>e=.returned (.int .i64 (q+l.length))/\jv w' base v (zHW q l.length)/\w.grownBy w' v.ownBlock:=by
 obtain⟨a,cap,rfl⟩:=hv.form
 obtain⟨n,hn⟩:∃n,n=l.length:=⟨_,rfl⟩
 rw[<-hn] at hl hv ⊢
 have zNj:=hid hn
 have HV:=hid hv
 clear hn hv
 go_enter al.func101,Tryz.ntmps101
 go_wp2
 go_loopw [5,1] (λ i z wr=>∃k:Nat,k<=n/\i=.int .i64 k/\z=.int .i64 (q+k)/\jv wr base (.slice a n cap) (zHW q k++l.drop k)/\w.grownBy wr (dj a n cap).ownBlock) (λ i _ _=>n-(intOf i).toNat)
 case atStart=>exact⟨0,bw _,rfl,by simp,by simpa [zHW] using HV.out,Qo _ _⟩
 case round=>
  obtain⟨k,hk,rfl,rfl,hO,hG⟩:=hrel
  have HO:=hid hO
  have HG:=hid hG
  clear hG
  by_cases cj:k<n
  ·have hlen:(zHW q k++l.drop k).length=n:=by have:=zNj.out;rw[List.length_append,ya,iF];omega
   obtain⟨g',rfl,-,hg2,hc2,hf2⟩:=hO.at' (k:=k) (by omega)
   have hcw:=hc2 k (by omega)
   have hfw:=hf2 k
   clear hO hc2 hf2
   go_wp2
   go_roundw
   case rel=>
    refine⟨k+1,by omega,by go_num,by go_num,?_,U8 HG.out _⟩
    have:=HO.out.put k (q+k)
    rwa [zLW l q n k cj zNj.out.symm] at this
   case measure=>simp[intOf];omega
  ·obtain rfl:k=n:=by omega
   clear hO
   have hO:=HO.out
   rw[zNj.out,List.drop_length,eO,<-zNj.out] at hO
   replace HO:=hid hO
   clear hO
   go_wp2
   go_ret
   exact⟨rfl,HO.out,HG.out⟩
open Ab
def isK:EK->EL->Bool
 |.ints,.ints _=>ae
 |.bK,.bK _=>ae
 |.bytes,.bytes _=>ae
 |.k3,.k3 _=>ae
 |_,_=>aa
variable{ek:EK}
theorem zLg{l:EL}(h:isK ek l=ae):l.sz=ek.sz:=by cases ek<;>cases l<;>first|rfl|cases h
theorem zMc(ek:EK):isK ek ek.nil=ae/\ek.nil.len=0:=by cases ek<;>exact⟨rfl,rfl⟩
def zLf(E : au)(ek : EK)(mk : EL → Int → EL)(rv : EL → Int → Int) : CS :=
  { S := fun xs hp K => match xs with
      | [a, .l (.v (.int .i64 q))] => (match a with
        | .l (.s k eC) => xg hp k eC fun E' l => az (Nat.beq E' E = ae) <| az (isK ek l = ae) <| az (0 ≤ q ∧ q ≤ 1099511627776) <| E1 hp k (.r eC E (mk l q)) fun bG => K (.l (.v (.int .i64 (rv l q)))) bG
        | .l (.v (.slice ak 0 0)) => az (0 ≤ q ∧ q ≤ 1099511627776) <| K (.l (.v (.int .i64 q))) hp
        | _ => False)
      | _ => False
    C4 := fun xs => match xs with
      | .l (.s k _) :: _ => ab [k]
      | _ => ab [] }
def Marks(P:aG)(f:ck)(E:au)(ek:EK)(mk:EL->Int->EL)(rv:EL->Int->Int):Prop:=∀(v:aj) (l:EL) (q:Int) (base:Nat) (w:ai),isK ek l=ae->w.ownsRow base E ek.sz v l.len l.enc->l.len<=pM->0<=q->q<=1099511627776->
 fV P f #[v,.int .i64 q] w λ e w'=>e=.returned (.int .i64 (rv l q))/\(l.len=0->rv l q=q)/\(mk l q).sz=ek.sz/\(mk l q).len=l.len/\w'.ownsRow base E ek.sz v l.len (mk l q).enc/\w.grownBy w' v.ownBlock
theorem zLU{w':ai}{v:aj}{base size:Nat}{e:au}{xs:List aj}(m:w.grownBy w' v.ownBlock)(o:w'.ownsRow base e size v n xs)(g:Nat)(h:mU w g):mU w' g:=by
 have cj:g<w.heap.size:=by
  obtain⟨c,t,f,h⟩:=h
  exact(ah.1 h).1
 rcases o.2 with⟨rfl,_⟩|⟨g0,cap,cur,rfl,_,hg,_⟩
 ·exact h.same (m.block g cj (by simp[qf]))
 ·by_cases hgg:g=g0
  ·subst hgg
   exact⟨_,_,_,hg⟩
  ·exact h.same (m.block g cj (by simp[qf];exact hgg))
theorem zLe{P:aG}{f:ck}{E:au}{mk:EL->Int->EL}{rv:EL->Int->Int}(hfn:(P.funcs[f]?).map (λ fn=>(fn.name == "runtime.NumGoroutine",fn.body.isNone))=ab (aa,aa))(h:Marks P f E ek mk rv):bW P f (zLf E ek mk rv):=by
 refine⟨hfn,λ xs hp K hS cx β w vs hI gl ha=>?_⟩
 simp only[zLf] at hS
 split at hS
 ·rename_i a q
  obtain⟨v,rfl,hv⟩:∃v,vs=#[v,.int .i64 q]/\AC cx β a v:=by
   cases yB:vs.toList with
   |nil=>rw[yB] at ha;exact ha.elim
   |cons v r=>
    rw[yB] at ha
    cases r with
    |nil=>exact ha.2.elim
    |cons u r=>
     obtain⟨h1,⟨_,h2⟩,h3⟩:=ha
     cases r with
     |cons _ _=>exact h3.elim
     |nil=>exact⟨v,bk.1 (by rw[yB,h2]),h1⟩
  split at hS
  ·rename_i k eC
   obtain⟨E',l,h1,h2⟩:=eV hS
   obtain⟨h3,h4⟩:=ba.1 h2
   obtain⟨h5,h6⟩:=ba.1 h4
   obtain⟨⟨q0,q1⟩,h7⟩:=ba.1 h6
   obtain⟨O0,h8⟩:=nq.1 h7
   have hE:=bf h3
   have hsz:=zLg h5
   subst hE
   obtain⟨v1,r2,r3,r4⟩:=lq hI h1
   have hv1:=LO (cx:=cx) hv r2
   subst hv1
   rw[hsz] at r3
   refine cR (h v l q _ w h5 r3 r4 q0 q1) ?_
   rintro e w' ⟨rfl,_,m1,m2,m3,m4⟩
   have dY:ownB hp β k=v.ownBlock:=by rw[ownB_of h1 r2];rfl
   have hO:Out cx β hp w (Ab.ST (ab [k])) β (hp.set k (.r eC E' (mk l q))) w':=by
    refine Out.upd (k0:=k) (h':=.r eC E' (mk l q)) (e':=.r v eC) hI (by simp[Ab.ST]) ?_ (λ i hi=>⟨cd (dr hi),rfl⟩) (by simp[O0]) r2 (by simp[hI.len]) (by simp) (Ext.refl _)
     ⟨rfl,by rw[m1,m2];exact m3,by rw[m2];exact r4⟩ (λ b hb=>.inl (by rw[dY];exact hb))
    rw[dY];exact wa.zi1 m4 (zLU m4 m3)
   exact⟨_,_,_,β,rfl,h8,⟨rfl,rfl⟩,hO⟩
  ·obtain⟨⟨q0,q1⟩,h1⟩:=ba.1 hS
   obtain⟨_,hv⟩:=hv
   have hv:v=.slice ak 0 0:=hv
   subst hv
   obtain⟨OD,hl2⟩:=zMc ek
   generalize ek.nil=l at OD hl2
   have he:l.enc=[]:=List.eq_nil_of_length_eq_zero (by rw[l.GW,hl2];simp)
   refine cR (h (.slice ak 0 0) l q w.heap.size w OD (by rw[hl2,he];exact World.ownsRow_nil _ _ _ _) (by omega) q0 q1) ?_
   rintro e w' ⟨rfl,m0,m1,m2,m3,m4⟩
   rw[m0 hl2]
   have hb:cE w.heap.size w w':=⟨m4.os,m4.tape,m4.output,m4.size,λ k hk=>m4.block k hk (by simp[qf])⟩
   exact⟨_,_,hp,β,rfl,h1,⟨rfl,rfl⟩,Out.stay hI hb⟩
  ·exact hS.elim
 ·exact hS.elim
def mkI(l:EL)(q:Int):EL:=.ints (zHW q l.len)
def rvI(l:EL)(q:Int):Int:=q+l.len
theorem zMp:Marks al.prog 101 3 .ints mkI rvI:=by
 intro v l q base w hs h hl h0 h1
 cases l with
 |ints l=>
  refine cR (zLA v l q base w h hl h0 h1) ?_
  rintro e w' ⟨rfl,h2,h3⟩
  have e1:(zHW q l.length).length=l.length:=ya _ _
  refine⟨rfl,λ h=>by simp[rvI,h],rfl,e1,?_,h3⟩
  have h2:w'.ownsRow base 3 1 v (zHW q l.length).length ((zHW q l.length).map (eE .i64)):=h2
  rw[e1] at h2
  exact h2
 |bK l=>cases hs
 |bytes l=>cases hs
 |k3 l=>cases hs
def zIi:CS:=zLf 3 .ints mkI rvI
theorem zIt:bW al.prog 101 zIi:=zLe gK zMp
def zMi(l:List Int):DV:=.l (.s 3 (.ints l))
theorem zL7{P:aG}{T:oU}{G:Env}{TR:Nat->Tr}{f:ck}{fn:fI}{E:au}{mk:EL->Int->EL}{rv:EL->Int->Int}(hT:jc P T)(hM:P.follows .mixedOrders=ae)(hG:bg P G)(hN:G=[])(hfn:P.funcs[f]?=ab fn)(hn:hY 2 fn.ntmps=ae)
  (hk:∀l q,isK ek l=ae->isK ek (mk l q)=ae/\(mk l q).len=l.len/\(l.len=0->rv l q=q))
  (h:∀(l:EL) (q:Int),isK ek l=ae->l.len<=pM->0<=q->q<=1099511627776->zK T G 1 [0] TR fn [.l (.s 0 0),.l (.v (.int .i64 q))] [.r 0 E l] λ r hp=>r=.l (.v (.int .i64 (rv l q)))/\hp=[.r 0 E (mk l q)]):Marks P f E ek mk rv:=by
 intro v l q base w hs dY hl h0 h1
 obtain⟨k1,k2,k3⟩:=hk l q hs
 have hsz:=zLg hs
 obtain⟨B,hB,GI,zMK⟩:∃B,B<=w.heap.size/\w.ownsRow B E ek.sz v l.len l.enc/\B<=base/\(∀b,v.ownBlock=ab b->base<=b):=by
  refine⟨min base w.heap.size,Nat.min_le_right _ _,CV dY (Nat.min_le_left _ _),Nat.min_le_left _ _,λ b hb=>(dY.lt b hb).1⟩
 obtain⟨hBb,hbb⟩:=zMK
 have hw0:({ w with heap:=w.heap.extract 0 B }:ai).heap.size=B:=by simp;omega
 have hI:Ab.Inv ⟨{ w with heap:=w.heap.extract 0 B },[]⟩ [.r v 0] [.r 0 E l] w:=by
  refine⟨⟨rfl,rfl,rfl,by rw[hw0];exact hB,λ b hb _=>?_,λ b hb=>?_⟩,rfl,λ k t e g1 g2=>?_,λ i k b g1 g2=>?_⟩
  ·rw[hw0] at hb
   show w.heap[b]?=(w.heap.extract 0 B)[b]?
   rw[qm]
   simp[hb]
   omega
  ·obtain⟨c,t,f,hb⟩:=hb
   have Uy:(w.heap.extract 0 B)[b]?=ab (.cells c t f):=hb
   rw[qm] at Uy
   split at Uy
   ·exact⟨c,t,f,by simpa using Uy⟩
   ·cases Uy
  ·cases k with
   |succ k=>simp at g1
   |zero=>
    simp only[List.getElem?_cons_zero,aF] at g1 g2
    subst g1 g2
    exact⟨rfl,by rw[hw0,hsz];exact GI,hl⟩
  ·obtain⟨_,_,e1,_,_⟩:=mB g1
   obtain⟨_,_,e2,_,_⟩:=mB g2
   have:=(aO.1 e1).1
   have:=(aO.1 e2).1
   simp at *
   omega
 have Ys:v.oneCell'=ae:=by obtain⟨_,_,rfl⟩:=xG dY;rfl
 refine cR (zFQ (W0:=[0]) (TR:=TR) hT hM ⟨hG,.inl hN⟩ hfn hI (xs:=[.l (.s 0 0),.l (.v (.int .i64 q))]) (vs:=#[v,.int .i64 q]) ⟨⟨Ys,v,0,rfl,aA _,λ _=>rfl⟩,⟨rfl,rfl⟩,trivial⟩ hn (h l q hs hl h0 h1)) ?_
 rintro e w' ⟨u,x,bG,cT,rfl,⟨rfl,rfl⟩,⟨_,hu⟩,nX,hL⟩
 have hu:u=.int .i64 (rv l q):=hu
 obtain⟨v',nh,g1,g2,g3⟩:=hL.ext 0 (.r v 0) (by simp) rfl
 have ho:=nX.OZ 0 _ _ rfl g1
 obtain⟨h4,h5,_⟩:=ho
 subst h4
 obtain rfl:=g3 rfl
 rw[hw0,zLg k1,k2] at h5
 refine⟨by rw[hu],k3,zLg k1,k2,?_,?_⟩
 ·obtain⟨a1,a2⟩:=h5
  refine⟨a1,a2.imp id λ⟨g,cap,cur,b1,b2,b3⟩=>⟨g,cap,cur,b1,hbb g (by rw[b1];rfl),b3⟩⟩
 ·refine⟨nX.kp.os,nX.kp.tape,nX.kp.output,hL.size,λ k hk fh=>hL.C4 k hk λ i=>?_⟩
  cases i with
  |zero=>exact λ e=>fh e.symm
  |succ i=>simp[ownB]
def zH0(q:Int):Nat->List (Int×Int)
 |0=>[]
 |n+1=>(q,q+1)::zH0 (q+2) n
theorem vL(q:Int)(n:Nat):(zH0 q n).length=n:=by
 induction n generalizing q with
 |zero=>rfl
 |succ n ih=>simp[zH0,ih]
theorem zLM(q:Int)(n i:Nat)(h:i<n):(zH0 q n).getD i (0,0)=(q+2*i,q+2*i+1):=by
 induction n generalizing q i with
 |zero=>omega
 |succ n ih=>
  cases i with
  |zero=>simp[zH0]
  |succ i=>
   have:=ih (q+2) i (by omega)
   simp only[zH0,Db,this,bz]
   omega
theorem zLO(q:Int)(n:Nat):zH0 q (n+1)=zH0 q n++[(q+2*n,q+2*n+1)]:=by
 induction n generalizing q with
 |zero=>simp[zH0]
 |succ n ih=>
  rw[zH0,ih]
  simp only[zH0,jR,List.cons.injEq,true_and,List.append_cancel_left_eq,bz,and_true]
  omega
theorem zLN(l p:List (Int×Int))(q:Int)(k:Nat)(hk:k<l.length)(hp:p=zH0 q k++l.drop k)(x:Int×Int):(p.set k x).set k (q+2*k,q+2*k+1)=zH0 q (k+1)++l.drop (k+1):=by
 rw[List.set_set,hp,zLO,List.set_append_right _ _ (by rw[vL];exact aA _),vL,Hv,dN]
 congr 1
 have e:=iz hk
 rw[e]
 rfl
def mkG(l:EL)(q:Int):EL:=.bK (zH0 q l.len)
def rvG(l:EL)(q:Int):Int:=q+2*l.len
def zKQ:Env:=[]
theorem zJG:bg al.prog zKQ:=aC trivial
theorem zMo:Marks al.prog 226 96 .bK mkG rvG:=by
 refine zL7 (TR:=ja) aS aH zJG rfl (Rn.fM Tryz.func226) gK ?_ ?_
 ·intro l q h
  cases l<;>first|cases h|skip
  exact⟨rfl,by simp[mkG,EL.len,vL],λ e=>by simp[rvG,e]⟩
 ·intro el q hk hl h0 h1
  cases el<;>first|cases hk|skip
  rename_i l
  replace hl:=gl l hl
  repeat' (conv=>whnf);first|refine az.mk ?_ ?_;exact gS|refine Fork.mk ?_ ?_;exact ER|refine End.mk ?_|apply gU;exact gA|refine gB ?_ ?_<;>intro hb h<;>try exact c8|refine λ(y:Int) (h0:0<=y) h1=>?_
  refine iK.inv {s:Nat×Int×List (Int×Int) // s.1<=l.length/\s.2.1=q+2*s.1/\s.2.2=zH0 q s.1++l.drop s.1} (λ⟨(k,z,_),_⟩=>[(5,.l (.v (.int .i64 k))),(1,.l (.v (.int .i64 z)))]) (λ⟨(_,_,p),_⟩=>[(0,.r 0 96 (.bK p))]) (λ⟨(k,_,_),_⟩=>l.length-k) ⟨(0,q,l),bw _,(show q=q+2*((0:Nat):Int) by omega),rfl⟩ [0] ?_ ?_
  ·repeat' first|refine az.mk ?_ ?_;exact gV|exact aV
  rintro⟨⟨k,z,p⟩,rJ,tl,X9⟩
  have zNl:k<=l.length:=rJ
  have zNo:z=q+2*k:=tl
  have gp:p=zH0 q k++l.drop k:=X9
  have gpl:p.length=l.length:=by rw[gp];simp[vL];omega
  have gs:(p.set (k:Int).toNat (z,(p.getD (k:Int).toNat (0,0)).2)).length=p.length:=by simp
  repeat' (conv=>whnf);first|refine az.mk ?_ ?_;exact gS|refine Fork.mk ?_ ?_;exact ER|refine End.mk ?_|apply gU;exact gA|refine gB ?_ ?_<;>intro hb h<;>try exact c8|refine λ(y:Int) (h0:0<=y) h1=>?_
  ·have cj:k<l.length:=by omega
   have e1:(p.set (k:Int).toNat (z,(p.getD (k:Int).toNat (0,0)).2)).set (k:Int).toNat (((p.set (k:Int).toNat (z,(p.getD (k:Int).toNat (0,0)).2)).getD (k:Int).toNat (0,0)).1,z+1)=zH0 q (k+1)++l.drop (k+1):=by
    have e2:((p.set (k:Int).toNat (z,(p.getD (k:Int).toNat (0,0)).2)).getD (k:Int).toNat (0,0)).1=z:=by
     rw[je,dq,List.getElem?_set_self (by omega)]
     rfl
    rw[e2,je,zNo]
    exact zLN l p q k cj gp _
   (refine ao ⟨(k+1,z+1+1,(p.set (k:Int).toNat (z,(p.getD (k:Int).toNat (0,0)).2)).set (k:Int).toNat (((p.set (k:Int).toNat (z,(p.getD (k:Int).toNat (0,0)).2)).getD (k:Int).toNat (0,0)).1,z+1)),cj,(show z+1+1=q+2*((k+1:Nat):Int) by omega),e1⟩ (ao [0] (aM ?_ ?_)))
   ·show l.length-(k+1)<l.length-k
    omega
   ·repeat' first|refine az.mk ?_ ?_;exact gV|exact aV
  ·have hk:k=l.length:=by omega
   refine⟨?_,?_⟩
   ·rw[zNo,hk];rfl
   ·rw[gp,hk];simp[mkG,EL.len]
def zJd:CS:=zLf 96 .bK mkG rvG
theorem zJ4:bW al.prog 226 zJd:=zLe gK zMo
def zMg(l:List (Int×Int)):DV:=.l (.s 96 (.bK l))
theorem zLa(l m:List (Int×Int))(k:Nat)(hk:k<l.length)(hm:m=l.take k++aX (l.length-k) (0,0)):m.set k (l.getD k (0,0))=l.take (k+1)++aX (l.length-(k+1)) (0,0):=by
 have hlen:(l.take k).length=k:=by rw[dm];omega
 have e:l.take (k+1)=l.take k++[l[k]]:=by rw[dO,aW hk];rfl
 rw[hm,List.set_append_right _ _ (by omega),hlen,Hv,show l.length-k=(l.length-(k+1))+1 by omega,sV,List.set_cons_zero,e,dN,dq,aW hk]
 rfl
def zJl:Env:=[]
theorem zKg:bg al.prog zJl:=aC trivial
def zKs:CS:=Jt jV zJl ja Tryz.f223
theorem zK0:bW al.prog 223 zKs:=iy aS aH zKg (Rn.fM Tryz.func223)
def zIg:Env:=[(223,zKs)]
theorem zIT:bg al.prog zIg:=aC ⟨zK0,trivial⟩
def zID:CS:=Jt jV zIg ja Tryz.f164
theorem zJx:bW al.prog 164 zID:=iy aS aH zIT (Rn.fM Tryz.func164)
def zLH:Env:=[]
theorem zKT:bg al.prog zLH:=aC trivial
def zJP:DA [.inr [.int,.int]]->(DV->Prop)->Prop:=λ⟨⟨a,b,_⟩,_⟩ K=>K (.a (zqW (a,b)))
theorem zLF:ji al.prog 247 [.inr [.int,.int]] zJP:=by
 refine bh (TR:=ja) aS aH zKT (Rn.fM Tryz.func247) rfl ?_
 rintro⟨⟨(a:Int),(b:Int),_⟩,_⟩ K hK _
 dsimp only[zJP] at hK
 repeat' (conv=>whnf);first|refine az.mk ?_ ?_;exact gS|refine End.mk ?_|apply gU;exact gA|refine gB ?_ ?_<;>intro hb h<;>try exact c8
 (refine gI hK ?_;repeat' first|exact gR|refine az.mk ?_ ?_)
def zLd:CS:=dn [.inr [.int,.int]] zJP
theorem zLi:bW al.prog 247 zLd:=bH zLF
def zLw:Env:=[(247,zLd)]
theorem zKk:bg al.prog zLw:=aC ⟨zLi,trivial⟩
def zKy:DA [.inl .bK]->(DV->Prop)->Prop:=λ⟨l,_⟩ K=>K (zMg l)
theorem zLo:ji al.prog 224 [.inl .bK] zKy:=by
 refine bh (TR:=ja) aS aH zKk (Rn.fM Tryz.func224) rfl ?_
 rintro⟨(l:List (Int×Int)),_⟩ K hK ⟨hl,_⟩
 replace hK:K (zMg l):=hK
 replace hl:=gl l hl
 repeat' (conv=>whnf);first|refine az.mk ?_ ?_;exact gS|refine End.mk ?_|apply gU;exact gA|refine gB ?_ ?_<;>intro hb h<;>try exact c8
 refine iK.inv {s:Nat×List (Int×Int) // s.1<=l.length/\s.2=l.take s.1++aX (l.length-s.1) (0,0)} (λ⟨(k,_),_⟩=>[(4,.l (.v (.int .i64 k)))]) (λ⟨(_,q),_⟩=>[(0,.r 0 96 (.bK q))]) (λ⟨(k,_),_⟩=>l.length-k) ⟨(0,aX l.length (0,0)),bw _,rfl⟩ [0] ?_ ?_
 ·repeat' first|refine az.mk ?_ ?_;exact gV|exact aV
 rintro⟨⟨k,q⟩,hk,hq⟩
 have zNl:k<=l.length:=hk
 have zNn:q=l.take k++aX (l.length-k) (0,0):=hq
 have gl:q.length=l.length:=by rw[zNn];simp;omega
 repeat' (conv=>whnf);first|refine az.mk ?_ ?_;exact gS|refine End.mk ?_|apply gU;exact gA|refine gB ?_ ?_<;>intro hb h<;>try exact c8
 ·have cj:k<l.length:=Int.ofNat_lt.1 h
  have e2:q.set k (l.getD k (0,0))=l.take (k+1)++aX (l.length-(k+1)) (0,0):=zLa l q k cj zNn
  (refine ao ⟨(k+1,q.set k (l.getD k (0,0))),cj,e2⟩ (ao [0] (aM ?_ ?_)))
  ·show l.length-(k+1)<l.length-k
   omega
  ·repeat' first|refine az.mk ?_ ?_;exact gV|exact aV
 ·(refine gI hK ?_;repeat' first|exact gR|refine az.mk ?_ ?_)
  have:k=l.length:=by omega
  rw[zNn,this]
  simp
def zKv:CS:=dn [.inl .bK] zKy
theorem zK3:bW al.prog 224 zKv:=bH zLo
def zJV:Env:=[(224,zKv)]
theorem zIU:bg al.prog zJV:=aC ⟨zK3,trivial⟩
def zH5:DA [.inr [.int,.int,.bK,.bool,.int]]->(DV->Prop)->Prop:=λ⟨⟨r,t,l,o,a,_⟩,_⟩ K=>K (.a (yy.d ⟨r,t,l,o,a⟩))
theorem zJR:ji al.prog 167 [.inr [.int,.int,.bK,.bool,.int]] zH5:=by
 refine bh (TR:=ja) aS aH zIU (Rn.fM Tryz.func167) rfl ?_
 dsimp only[DA,HL,Sh.T]
 rintro⟨⟨r,t,l,o,a,_⟩,_⟩ K hK ⟨⟨_,_,hl,_⟩,_⟩
 dsimp only[zH5] at hK
 replace hl:=gl l hl
 repeat' (conv=>whnf);first|refine az.mk ?_ ?_;exact gS|refine End.mk ?_|apply gU;exact gA|refine gB ?_ ?_<;>intro hb h<;>try exact c8
 (refine gI hK ?_;repeat' first|exact gR|refine az.mk ?_ ?_)
 all_goals rfl
def zIE:CS:=dn [.inr [.int,.int,.bK,.bool,.int]] zH5
theorem zJy:bW al.prog 167 zIE:=bH zJR
def zLG:Env:=[]
theorem zKM:bg al.prog zLG:=aC trivial
def zJO:DA [.inr [.int,.int],.inr [.int,.int]]->(DV->Prop)->Prop:=λ⟨⟨a,b,_⟩,⟨c,d,_⟩,_⟩ K=>K (.l (.v (.bool (decide (a=c/\b=d)))))
theorem zLE:ji al.prog 248 [.inr [.int,.int],.inr [.int,.int]] zJO:=by
 refine bh (TR:=ja) aS aH zKM (Rn.fM Tryz.func248) rfl ?_
 dsimp only[DA,HL,Sh.T]
 rintro⟨⟨a,b,_⟩,⟨c,d,_⟩,_⟩ K hK _
 dsimp only[zJO] at hK
 repeat' (conv=>whnf);first|refine az.mk ?_ ?_;exact gS|refine End.mk ?_|apply gU;exact gA|refine gB ?_ ?_<;>intro hb h<;>try exact c8
 all_goals
  (refine gI hK ?_;repeat' first|exact gR|refine az.mk ?_ ?_)
  simp_all
def zLc:CS:=dn [.inr [.int,.int],.inr [.int,.int]] zJO
theorem zLh:bW al.prog 248 zLc:=bH zLE
def zLs:Env:=[(248,zLc)]
theorem zKc:bg al.prog zLs:=aC ⟨zLh,trivial⟩
def zLI:Nat->Tr:=λ n=>match n with
 |6=>.op 0 0 (.op 1 0 (.op 2 0 (.op 3 0 (.op 4 0 (.op 5 1 (.op 6 1 (.op 7 1 (.op 8 1 (.op 9 1 (.nil))))))))))
 |_=>.nil
def zI1:DA [.inl .bK,.inl .bK]->(DV->Prop)->Prop:=λ⟨a,b,_⟩ K=>K (.l (.v (.bool (decide (a=b)))))
theorem zLj:ji al.prog 225 [.inl .bK,.inl .bK] zI1:=by
 refine bh (TR:=zLI) aS aH zKc (Rn.fM Tryz.func225) rfl ?_
 rintro⟨(a:List (Int×Int)),(b:List (Int×Int)),_⟩ K hK ⟨hla,hlb,_⟩
 dsimp only[zI1] at hK
 replace hla:=gl a hla
 replace hlb:=gl b hlb
 repeat' (conv=>whnf);first|refine az.mk ?_ ?_;exact gS|refine End.mk ?_|apply gU;exact gA|refine gB ?_ ?_<;>intro hb h<;>try exact c8
 ·(refine gI hK ?_;repeat' first|exact gR|refine az.mk ?_ ?_)
  exact(decide_eq_false (λ e=>h (by rw[e]))).symm
 ·repeat' (conv=>whnf);first|refine az.mk ?_ ?_;exact gS|refine End.mk ?_|apply gU;exact gA|refine gB ?_ ?_<;>intro hb h<;>try exact c8
  refine iK.inv {k:Nat // k<=a.length/\a.take k=b.take k} (λ⟨k,_⟩=>[(5,.l (.v (.int .i64 k)))]) (λ _=>[]) (λ⟨k,_⟩=>a.length-k) ⟨0,bw _,rfl⟩ [] ?_ ?_
  ·repeat' first|refine az.mk ?_ ?_;exact gV|exact aV
  rintro⟨k,hk,tl⟩
  repeat' (conv=>whnf);first|refine az.mk ?_ ?_;exact gS|refine End.mk ?_|apply gU;exact gA|refine gB ?_ ?_<;>intro hb h<;>try exact c8
  ·(refine gI hK ?_;repeat' first|exact gR|refine az.mk ?_ ?_)
   refine(decide_eq_false (λ e=>?_)).symm
   subst e
   simp at h
  ·have h2:a.take (k+1)=b.take (k+1):=by
    rw[je] at h
    exact Z1 (by omega) (by omega) tl (Prod.ext h.1 h.2)
   (refine ao ⟨k+1,by omega,h2⟩ (ao [] (aM ?_ ?_)))
   ·show a.length-(k+1)<a.length-k
    omega
   ·repeat' first|refine az.mk ?_ ?_;exact gV|exact aV
  ·(refine gI hK ?_;repeat' first|exact gR|refine az.mk ?_ ?_)
   rw[bq (by omega),bq (by omega)] at tl
   exact(decide_eq_true tl).symm
def zKp:CS:=dn [.inl .bK,.inl .bK] zI1
theorem zKX:bW al.prog 225 zKp:=bH zLj
def zJT:Env:=[(225,zKp)]
theorem zIO:bg al.prog zJT:=aC ⟨zKX,trivial⟩
def zH4:DA [.inr [.int,.int,.bK,.bool,.int],.inr [.int,.int,.bK,.bool,.int]]->(DV->Prop)->Prop:=λ⟨⟨r,t,l,o,a,_⟩,⟨r2,t2,l2,o2,a2,_⟩,_⟩ K=>K (.l (.v (.bool (decide (r=r2/\t=t2/\o=o2/\a=a2/\l=l2)))))
theorem zJQ:ji al.prog 171 [.inr [.int,.int,.bK,.bool,.int],.inr [.int,.int,.bK,.bool,.int]] zH4:=by
 refine bh (TR:=ja) aS aH zIO (Rn.fM Tryz.func171) rfl ?_
 dsimp only[DA,HL,Sh.T]
 rintro⟨⟨r,t,l,o,a,_⟩,⟨r2,t2,l2,o2,a2,_⟩,_⟩ K hK _
 dsimp only[zH4] at hK
 repeat' (conv=>whnf);first|refine az.mk ?_ ?_;exact gS|refine End.mk ?_|apply gU;exact gA|refine gB ?_ ?_<;>intro hb h<;>try exact c8
 all_goals
  (refine gI hK ?_;repeat' first|exact gR|refine az.mk ?_ ?_)
  simp_all
def zIy:CS:=dn [.inr [.int,.int,.bK,.bool,.int],.inr [.int,.int,.bK,.bool,.int]] zH4
theorem zJs:bW al.prog 171 zIy:=bH zJQ
def zKO:Env:=[]
theorem zJC:bg al.prog zKO:=aC trivial
def zJq:DA [.inl .bK,.inl .int]->(DV->Prop)->Prop:=λ⟨l,q,_⟩ K=>az (0<=q/\q<=1099511627776) <| az (l=zH0 q l.length) <| K (.l (.v (.int .i64 (q+2*l.length))))
theorem zKF:ji al.prog 227 [.inl .bK,.inl .int] zJq:=by
 refine bh (TR:=ja) aS aH zJC (Rn.fM Tryz.func227) rfl ?_
 rintro⟨(l:List (Int×Int)),(q:Int),_⟩ K ⟨hq,⟨hm,hK⟩⟩ ⟨hl,_⟩
 replace hK:K (.l (.v (.int .i64 (q+2*l.length)))):=hK
 replace hl:=gl l hl
 replace hq:0<=q/\q<=1099511627776:=hq
 replace hm:l=zH0 q l.length:=hm
 repeat' (conv=>whnf);first|refine az.mk ?_ ?_;exact gS|refine End.mk ?_|apply gU;exact gA|refine gB ?_ ?_<;>intro hb h<;>try exact c8
 refine iK.inv {s:Nat×Int // s.1<=l.length/\s.2=q+2*s.1} (λ⟨(k,z),_⟩=>[(5,.l (.v (.int .i64 k))),(1,.l (.v (.int .i64 z)))]) (λ _=>[]) (λ⟨(k,_),_⟩=>l.length-k) ⟨(0,q),bw _,(show q=q+2*((0:Nat):Int) by omega)⟩ [] ?_ ?_
 ·repeat' first|refine az.mk ?_ ?_;exact gV|exact aV
 rintro⟨⟨k,z⟩,hk,hz⟩
 have zNl:k<=l.length:=hk
 have zNo:z=q+2*k:=hz
 have zNm:k<l.length->l.getD (k:Int).toNat (0,0)=(q+2*k,q+2*k+1):=λ h=>by rw[je,hm];exact zLM q l.length k h
 have gm1:k<l.length->(l.getD (k:Int).toNat (0,0)).1=q+2*k:=λ h=>by rw[zNm h]
 have gm2:k<l.length->(l.getD (k:Int).toNat (0,0)).2=q+2*k+1:=λ h=>by rw[zNm h]
 repeat' (conv=>whnf);first|refine az.mk ?_ ?_;exact gS|refine End.mk ?_|apply gU;exact gA|refine gB ?_ ?_<;>intro hb h<;>try exact c8
 ·have cj:k<l.length:=by omega
  (refine ao ⟨(k+1,z+1+1),cj,(show z+1+1=q+2*((k+1:Nat):Int) by omega)⟩ (ao [] (aM ?_ ?_)))
  ·show l.length-(k+1)<l.length-k
   omega
  ·repeat' first|refine az.mk ?_ ?_;exact gV|exact aV
 ·(refine gI hK ?_;repeat' first|exact gR|refine az.mk ?_ ?_)
  omega
def zJa:CS:=dn [.inl .bK,.inl .int] zJq
theorem zJ1:bW al.prog 227 zJa:=bH zKF
def zH7:Env:=[(226,zJd)]
theorem zIv:bg al.prog zH7:=aC ⟨zJ4,trivial⟩
def zIb:CS:=Jt jV zH7 ja Tryz.f174
theorem zIN:bW al.prog 174 zIb:=iy aS aH zIv (Rn.fM Tryz.func174)
def zH6:Env:=[(227,zJa)]
theorem zIu:bg al.prog zH6:=aC ⟨zJ1,trivial⟩
def zIa:CS:=Jt jV zH6 ja Tryz.f176
theorem zIM:bW al.prog 176 zIa:=iy aS aH zIu (Rn.fM Tryz.func176)
def zJm:Env:=[]
theorem zKh:bg al.prog zJm:=aC trivial
def zIZ:CS:=Jt jV zJm ja Tryz.f95
theorem zIW:bW al.prog 95 zIZ:=iy aS aH zKh (Rn.fM Tryz.func95)
def zIK:Env:=[(95,zIZ)]
theorem zJK:bg al.prog zIK:=aC ⟨zIW,trivial⟩
def zJh:CS:=Jt jV zIK ja Tryz.f165
theorem zJ8:bW al.prog 165 zJh:=iy aS aH zJK (Rn.fM Tryz.func165)
def zLx:Env:=[]
theorem zKl:bg al.prog zLx:=aC trivial
def zKz:DA [.inl .ints]->(DV->Prop)->Prop:=λ⟨l,_⟩ K=>K (zMi l)
theorem zLp:ji al.prog 97 [.inl .ints] zKz:=by
 refine bh (TR:=ja) aS aH zKl (Rn.fM Tryz.func97) rfl ?_
 rintro⟨(l:List Int),_⟩ K hK ⟨hl,_⟩
 replace hK:K (zMi l):=hK
 replace hl:=gl l hl
 repeat' (conv=>whnf);first|refine az.mk ?_ ?_;exact gS|refine End.mk ?_|apply gU;exact gA|refine gB ?_ ?_<;>intro hb h<;>try exact c8
 refine iK.inv {s:Nat×List Int // s.1<=l.length/\s.2=l.take s.1++aX (l.length-s.1) 0} (λ⟨(k,_),_⟩=>[(4,.l (.v (.int .i64 k)))]) (λ⟨(_,q),_⟩=>[(0,.r 0 3 (.ints q))]) (λ⟨(k,_),_⟩=>l.length-k) ⟨(0,aX l.length 0),bw _,rfl⟩ [0] ?_ ?_
 ·repeat' first|refine az.mk ?_ ?_;exact gV|exact aV
 rintro⟨⟨k,q⟩,hk,hq⟩
 have zNl:k<=l.length:=hk
 have zNn:q=l.take k++aX (l.length-k) 0:=hq
 have gl:q.length=l.length:=by rw[zNn];simp;omega
 repeat' (conv=>whnf);first|refine az.mk ?_ ?_;exact gS|refine End.mk ?_|apply gU;exact gA|refine gB ?_ ?_<;>intro hb h<;>try exact c8
 ·have cj:k<l.length:=Int.ofNat_lt.1 h
  have e2:q.set k (l.getD k 0)=l.take (k+1)++aX (l.length-(k+1)) 0:=zLb l q k cj zNn
  (refine ao ⟨(k+1,q.set k (l.getD k 0)),cj,e2⟩ (ao [0] (aM ?_ ?_)))
  ·show l.length-(k+1)<l.length-k
   omega
  ·repeat' first|refine az.mk ?_ ?_;exact gV|exact aV
 ·(refine gI hK ?_;repeat' first|exact gR|refine az.mk ?_ ?_)
  have:k=l.length:=by omega
  rw[zNn,this]
  simp
def zI0:CS:=dn [.inl .ints] zKz
theorem zIX:bW al.prog 97 zI0:=bH zLp
def zKU:Env:=[(97,zI0)]
theorem zJN:bg al.prog zKU:=aC ⟨zIX,trivial⟩
def zIo:DA [.inr [.int,.ints,.int,.int]]->(DV->Prop)->Prop:=λ⟨⟨r,l,s,f,_⟩,_⟩ K=>K (.a (yz.d ⟨r,l,s,f⟩))
theorem zKJ:ji al.prog 168 [.inr [.int,.ints,.int,.int]] zIo:=by
 refine bh (TR:=ja) aS aH zJN (Rn.fM Tryz.func168) rfl ?_
 dsimp only[DA,HL,Sh.T]
 rintro⟨⟨r,l,s,f,_⟩,_⟩ K hK ⟨⟨_,hl,_⟩,_⟩
 dsimp only[zIo] at hK
 replace hl:=gl l hl
 repeat' (conv=>whnf);first|refine az.mk ?_ ?_;exact gS|refine End.mk ?_|apply gU;exact gA|refine gB ?_ ?_<;>intro hb h<;>try exact c8
 (refine gI hK ?_;repeat' first|exact gR|refine az.mk ?_ ?_)
 all_goals rfl
def zJk:CS:=dn [.inr [.int,.ints,.int,.int]] zIo
theorem zKb:bW al.prog 168 zJk:=bH zKJ
def zLt:Env:=[]
theorem zKd:bg al.prog zLt:=aC trivial
def zLJ:Nat->Tr:=λ n=>match n with
 |6=>.op 0 0 (.op 1 0 (.op 2 0 (.op 3 0 (.op 4 0 (.op 5 1 (.op 6 1 (.op 7 1 (.op 8 1 (.nil)))))))))
 |_=>.nil
def zI2:DA [.inl .ints,.inl .ints]->(DV->Prop)->Prop:=λ⟨a,b,_⟩ K=>K (.l (.v (.bool (decide (a=b)))))
theorem zLl:ji al.prog 99 [.inl .ints,.inl .ints] zI2:=by
 refine bh (TR:=zLJ) aS aH zKd (Rn.fM Tryz.func99) rfl ?_
 rintro⟨(a:List Int),(b:List Int),_⟩ K hK ⟨hla,hlb,_⟩
 dsimp only[zI2] at hK
 replace hla:=gl a hla
 replace hlb:=gl b hlb
 repeat' (conv=>whnf);first|refine az.mk ?_ ?_;exact gS|refine End.mk ?_|apply gU;exact gA|refine gB ?_ ?_<;>intro hb h<;>try exact c8
 ·(refine gI hK ?_;repeat' first|exact gR|refine az.mk ?_ ?_)
  exact(decide_eq_false (λ e=>h (by rw[e]))).symm
 ·repeat' (conv=>whnf);first|refine az.mk ?_ ?_;exact gS|refine End.mk ?_|apply gU;exact gA|refine gB ?_ ?_<;>intro hb h<;>try exact c8
  refine iK.inv {k:Nat // k<=a.length/\a.take k=b.take k} (λ⟨k,_⟩=>[(5,.l (.v (.int .i64 k)))]) (λ _=>[]) (λ⟨k,_⟩=>a.length-k) ⟨0,bw _,rfl⟩ [] ?_ ?_
  ·repeat' first|refine az.mk ?_ ?_;exact gV|exact aV
  rintro⟨k,hk,tl⟩
  repeat' (conv=>whnf);first|refine az.mk ?_ ?_;exact gS|refine End.mk ?_|apply gU;exact gA|refine gB ?_ ?_<;>intro hb h<;>try exact c8
  ·(refine gI hK ?_;repeat' first|exact gR|refine az.mk ?_ ?_)
   exact(decide_eq_false (λ e=>h (by rw[e]))).symm
  ·have h2:a.take (k+1)=b.take (k+1):=by
    rw[je] at h
    exact XN (by omega) (by omega) tl h
   (refine ao ⟨k+1,by omega,h2⟩ (ao [] (aM ?_ ?_)))
   ·show a.length-(k+1)<a.length-k
    omega
   ·repeat' first|refine az.mk ?_ ?_;exact gV|exact aV
  ·(refine gI hK ?_;repeat' first|exact gR|refine az.mk ?_ ?_)
   rw[bq (by omega),bq (by omega)] at tl
   exact(decide_eq_true tl).symm
def zIY:CS:=dn [.inl .ints,.inl .ints] zI2
theorem zIV:bW al.prog 99 zIY:=bH zLl
def zKN:Env:=[(99,zIY)]
theorem zJB:bg al.prog zKN:=aC ⟨zIV,trivial⟩
def zIl:DA [.inr [.int,.ints,.int,.int],.inr [.int,.ints,.int,.int]]->(DV->Prop)->Prop:=λ⟨⟨r,l,s,f,_⟩,⟨r2,l2,s2,f2,_⟩,_⟩ K=>K (.l (.v (.bool (decide (r=r2/\s=s2/\f=f2/\l=l2)))))
theorem zKE:ji al.prog 172 [.inr [.int,.ints,.int,.int],.inr [.int,.ints,.int,.int]] zIl:=by
 refine bh (TR:=ja) aS aH zJB (Rn.fM Tryz.func172) rfl ?_
 dsimp only[DA,HL,Sh.T]
 rintro⟨⟨r,l,s,f,_⟩,⟨r2,l2,s2,f2,_⟩,_⟩ K hK _
 dsimp only[zIl] at hK
 repeat' (conv=>whnf);first|refine az.mk ?_ ?_;exact gS|refine End.mk ?_|apply gU;exact gA|refine gB ?_ ?_<;>intro hb h<;>try exact c8
 all_goals
  (refine gI hK ?_;repeat' first|exact gR|refine az.mk ?_ ?_)
  simp_all
def zI9:CS:=dn [.inr [.int,.ints,.int,.int],.inr [.int,.ints,.int,.int]] zIl
theorem zJ0:bW al.prog 172 zI9:=bH zKE
def zKP:Env:=[]
theorem zJD:bg al.prog zKP:=aC trivial
def zJr:DA [.inl .ints,.inl .int]->(DV->Prop)->Prop:=λ⟨l,q,_⟩ K=>az (0<=q/\q<=1099511627776) <| az (l=zHW q l.length) <| K (.l (.v (.int .i64 (q+l.length))))
theorem zKG:ji al.prog 103 [.inl .ints,.inl .int] zJr:=by
 refine bh (TR:=ja) aS aH zJD (Rn.fM Tryz.func103) rfl ?_
 rintro⟨(l:List Int),(q:Int),_⟩ K ⟨hq,⟨hm,hK⟩⟩ ⟨hl,_⟩
 replace hK:K (.l (.v (.int .i64 (q+l.length)))):=hK
 replace hl:=gl l hl
 replace hq:0<=q/\q<=1099511627776:=hq
 replace hm:l=zHW q l.length:=hm
 repeat' (conv=>whnf);first|refine az.mk ?_ ?_;exact gS|refine End.mk ?_|apply gU;exact gA|refine gB ?_ ?_<;>intro hb h<;>try exact c8
 refine iK.inv {s:Nat×Int // s.1<=l.length/\s.2=q+s.1} (λ⟨(k,z),_⟩=>[(5,.l (.v (.int .i64 k))),(1,.l (.v (.int .i64 z)))]) (λ _=>[]) (λ⟨(k,_),_⟩=>l.length-k) ⟨(0,q),bw _,(show q=q+((0:Nat):Int) by omega)⟩ [] ?_ ?_
 ·repeat' first|refine az.mk ?_ ?_;exact gV|exact aV
 rintro⟨⟨k,z⟩,hk,hz⟩
 have zNl:k<=l.length:=hk
 have zNo:z=q+k:=hz
 have zNm:k<l.length->l.getD k 0=q+k:=λ h=>by rw[hm];exact zLP q l.length k h
 repeat' (conv=>whnf);first|refine az.mk ?_ ?_;exact gS|refine End.mk ?_|apply gU;exact gA|refine gB ?_ ?_<;>intro hb h<;>try exact c8
 ·exfalso
  have cj:k<l.length:=by omega
  have:=zNm cj
  rw[je] at h
  omega
 ·have cj:k<l.length:=by omega
  (refine ao ⟨(k+1,z+1),cj,(show z+1=q+((k+1:Nat):Int) by omega)⟩ (ao [] (aM ?_ ?_)))
  ·show l.length-(k+1)<l.length-k
   omega
  ·repeat' first|refine az.mk ?_ ?_;exact gV|exact aV
 ·(refine gI hK ?_;repeat' first|exact gR|refine az.mk ?_ ?_)
  omega
def zIh:CS:=dn [.inl .ints,.inl .int] zJr
theorem zIs:bW al.prog 103 zIh:=bH zKG
def zIf:Env:=[(101,zIi)]
theorem zIS:bg al.prog zIf:=aC ⟨zIt,trivial⟩
def zIC:CS:=Jt jV zIf ja Tryz.f175
theorem zJw:bW al.prog 175 zIC:=iy aS aH zIS (Rn.fM Tryz.func175)
def zId:Env:=[(103,zIh)]
theorem zIQ:bg al.prog zId:=aC ⟨zIs,trivial⟩
def zIA:CS:=Jt jV zId ja Tryz.f177
theorem zJu:bW al.prog 177 zIA:=iy aS aH zIQ (Rn.fM Tryz.func177)
def zKS:Env:=[]
theorem zJM:bg al.prog zKS:=aC trivial
def zIn:DA [.inr [.int,.int,.int]]->(DV->Prop)->Prop:=λ⟨⟨fb,fq,fst,_⟩,_⟩ K=>K (.a (X4.d ⟨fb,fq,fst⟩))
theorem zKI:ji al.prog 166 [.inr [.int,.int,.int]] zIn:=by
 refine bh (TR:=ja) aS aH zJM (Rn.fM Tryz.func166) rfl ?_
 rintro⟨⟨(fb:Int),(fq:Int),(fst:Int),_⟩,_⟩ K hK _
 dsimp only[zIn] at hK
 exact gW
def zJj:CS:=dn [.inr [.int,.int,.int]] zIn
theorem zKa:bW al.prog 166 zJj:=bH zKI
def zK9:Env:=[]
theorem zJU:bg al.prog zK9:=aC trivial
def zIx:DA [.inr [.bool,.bool,.bool,.bool]]->(DV->Prop)->Prop:=λ⟨⟨mc,mh,cy,cz,_⟩,_⟩ K=>K (.a (Jp.d ⟨mc,mh,cy,cz⟩))
theorem zK7:ji al.prog 169 [.inr [.bool,.bool,.bool,.bool]] zIx:=by
 refine bh (TR:=ja) aS aH zJU (Rn.fM Tryz.func169) rfl ?_
 dsimp only[DA,HL,Sh.T]
 rintro⟨⟨mc,mh,cy,cz,_⟩,_⟩ K hK _
 dsimp only[zIx] at hK
 exact gW
def zJX:CS:=dn [.inr [.bool,.bool,.bool,.bool]] zIx
theorem zKB:bW al.prog 169 zJX:=bH zK7
def zLz:Env:=[(166,zJj),(167,zIE),(168,zJk),(169,zJX)]
theorem zKn:bg al.prog zLz:=aC ⟨zKa,zJy,zKb,zKB,trivial⟩
def zI6:DA [lR]->(DV->Prop)->Prop:=λ⟨⟨fb,fq,fst,pe,pc,rr,rt,rl,ro,ra,sr,sl,ss,sf,mc,mh,cy,cz,_⟩,_⟩ K=>K (.a (re.d ⟨⟨fb,fq,fst⟩,pe,pc,⟨rr,rt,rl,ro,ra⟩,⟨sr,sl,ss,sf⟩,⟨mc,mh,cy,cz⟩⟩))
theorem zLr:ji al.prog 96 [lR] zI6:=by
 refine bh (TR:=ja) aS aH zKn (Rn.fM Tryz.func96) rfl ?_
 dsimp only[DA,HL,Sh.T]
 rintro⟨⟨fb,fq,fst,pe,pc,rr,rt,rl,ro,ra,sr,sl,ss,sf,mc,mh,cy,cz,_⟩,_⟩ K hK _
 dsimp only[zI6] at hK
 exact gW
def zKx:CS:=dn [lR] zI6
theorem zK5:bW al.prog 96 zKx:=bH zLr
def zKL:Env:=[]
theorem zJA:bg al.prog zKL:=aC trivial
def zIk:DA [.inr [.int,.int,.int],.inr [.int,.int,.int]]->(DV->Prop)->Prop:=λ⟨⟨fb,fq,fst,_⟩,⟨Gj,Sz,wq,_⟩,_⟩ K=>K (.l (.v (.bool (decide (fb=Gj/\fq=Sz/\fst=wq)))))
theorem zKD:ji al.prog 170 [.inr [.int,.int,.int],.inr [.int,.int,.int]] zIk:=by
 refine bh (TR:=ja) aS aH zJA (Rn.fM Tryz.func170) rfl ?_
 dsimp only[DA,HL,Sh.T]
 rintro⟨⟨fb,fq,fst,_⟩,⟨Gj,Sz,wq,_⟩,_⟩ K hK _
 dsimp only[zIk] at hK
 repeat' (conv=>whnf);first|refine az.mk ?_ ?_;exact gS|refine End.mk ?_|apply gU;exact gA|refine gB ?_ ?_<;>intro hb h<;>try exact c8
 all_goals
  (refine gI hK ?_;repeat' first|exact gR|refine az.mk ?_ ?_)
  simp_all
def zI8:CS:=dn [.inr [.int,.int,.int],.inr [.int,.int,.int]] zIk
theorem zJZ:bW al.prog 170 zI8:=bH zKD
def zK8:Env:=[]
theorem zJS:bg al.prog zK8:=aC trivial
def zIw:DA [.inr [.bool,.bool,.bool,.bool],.inr [.bool,.bool,.bool,.bool]]->(DV->Prop)->Prop:=λ⟨⟨mc,mh,cy,cz,_⟩,⟨mc2,mh2,zaT,zaU,_⟩,_⟩ K=>K (.l (.v (.bool (decide (mc=mc2/\mh=mh2/\cy=zaT/\cz=zaU)))))
theorem zK6:ji al.prog 173 [.inr [.bool,.bool,.bool,.bool],.inr [.bool,.bool,.bool,.bool]] zIw:=by
 refine bh (TR:=ja) aS aH zJS (Rn.fM Tryz.func173) rfl ?_
 dsimp only[DA,HL,Sh.T]
 rintro⟨⟨mc,mh,cy,cz,_⟩,⟨mc2,mh2,zaT,zaU,_⟩,_⟩ K hK _
 dsimp only[zIw] at hK
 repeat' (conv=>whnf);first|refine az.mk ?_ ?_;exact gS|refine End.mk ?_|apply gU;exact gA|refine gB ?_ ?_<;>intro hb h<;>try exact c8
 all_goals
  (refine gI hK ?_;repeat' first|exact gR|refine az.mk ?_ ?_)
  simp_all
def zJW:CS:=dn [.inr [.bool,.bool,.bool,.bool],.inr [.bool,.bool,.bool,.bool]] zIw
theorem zKA:bW al.prog 173 zJW:=bH zK6
def zLv:Env:=[(170,zI8),(171,zIy),(172,zI9),(173,zJW)]
theorem zKf:bg al.prog zLv:=aC ⟨zJZ,zJs,zJ0,zKA,trivial⟩
def zI4:DA [lR,lR]->(DV->Prop)->Prop:=λ⟨⟨fb,fq,fst,pe,pc,rr,rt,rl,ro,ra,sr,sl,ss,sf,mc,mh,cy,cz,_⟩,⟨Gj,Sz,wq,pe2,pc2,rr2,rt2,rl2,ro2,ra2,sr2,sl2,ss2,sf2,mc2,mh2,zaT,zaU,_⟩,_⟩ K=>K (.l (.v (.bool (UQ ⟨⟨fb,fq,fst⟩,pe,pc,⟨rr,rt,rl,ro,ra⟩,⟨sr,sl,ss,sf⟩,⟨mc,mh,cy,cz⟩⟩ ⟨⟨Gj,Sz,wq⟩,pe2,pc2,⟨rr2,rt2,rl2,ro2,ra2⟩,⟨sr2,sl2,ss2,sf2⟩,⟨mc2,mh2,zaT,zaU⟩⟩))))
theorem zLn:ji al.prog 98 [lR,lR] zI4:=by
 refine bh (TR:=ja) aS aH zKf (Rn.fM Tryz.func98) rfl ?_
 dsimp only[DA,HL,Sh.T]
 rintro⟨⟨fb,fq,fst,pe,pc,rr,rt,rl,ro,ra,sr,sl,ss,sf,mc,mh,cy,cz,_⟩,⟨Gj,Sz,wq,pe2,pc2,rr2,rt2,rl2,ro2,ra2,sr2,sl2,ss2,sf2,mc2,mh2,zaT,zaU,_⟩,_⟩ K hK _
 dsimp only[zI4] at hK
 repeat' (conv=>whnf);first|refine az.mk ?_ ?_;exact gS|refine End.mk ?_|apply gU;exact gA|refine gB ?_ ?_<;>intro hb h<;>try exact c8
 all_goals
  (refine gI hK ?_;repeat' first|exact gR|refine az.mk ?_ ?_)
  simp_all [UQ]
def zKr:CS:=dn [lR,lR] zI4
theorem zKZ:bW al.prog 98 zKr:=bH zLn
def zJo:Env:=[(164,zID),(165,zJh)]
theorem zKj:bg al.prog zJo:=aC ⟨zJx,zJ8,trivial⟩
def zKu:CS:=Jt jV zJo ja Tryz.f94
theorem zK2:bW al.prog 94 zKu:=iy aS aH zKj (Rn.fM Tryz.func94)
def zII:Env:=[(174,zIb),(175,zIC)]
theorem zJI:bg al.prog zII:=aC ⟨zIN,zJw,trivial⟩
def zJf:CS:=Jt jV zII ja Tryz.f100
theorem zJ6:bW al.prog 100 zJf:=iy aS aH zJI (Rn.fM Tryz.func100)
def zIG:Env:=[(176,zIa),(177,zIA)]
theorem zJF:bg al.prog zIG:=aC ⟨zIM,zJu,trivial⟩
def zJc:CS:=Jt jV zIG ja Tryz.f102
theorem zJ3:bW al.prog 102 zJc:=iy aS aH zJF (Rn.fM Tryz.func102)
def zKR:Env:=[(96,zKx),(97,zI0)]
theorem zJL:bg al.prog zKR:=aC ⟨zK5,zIX,trivial⟩
def zIm:DA [oc]->(DV->Prop)->Prop:=λ⟨⟨fb,fq,fst,pe,pc,rr,rt,rl,ro,ra,sr,sl,ss,sf,mc,mh,cy,cz,qi,qo,cw,cl,_⟩,_⟩ K=>K (.a (iY.d ⟨⟨⟨fb,fq,fst⟩,pe,pc,⟨rr,rt,rl,ro,ra⟩,⟨sr,sl,ss,sf⟩,⟨mc,mh,cy,cz⟩⟩,qi,qo,cw,cl⟩))
theorem zKH:ji al.prog 60 [oc] zIm:=by
 refine bh (TR:=ja) aS aH zJL (Rn.fM Tryz.func60) rfl ?_
 dsimp only[DA,HL,Sh.T]
 rintro⟨⟨fb,fq,fst,pe,pc,rr,rt,rl,ro,ra,sr,sl,ss,sf,mc,mh,cy,cz,qi,qo,cw,cl,_⟩,_⟩ K hK _
 dsimp only[zIm] at hK
 exact gW
def zJi:CS:=dn [oc] zIm
theorem zJ9:bW al.prog 60 zJi:=bH zKH
def zKK:Env:=[(98,zKr),(99,zIY)]
theorem zJz:bg al.prog zKK:=aC ⟨zKZ,zIV,trivial⟩
def zIj:DA [oc,oc]->(DV->Prop)->Prop:=λ⟨⟨fb,fq,fst,pe,pc,rr,rt,rl,ro,ra,sr,sl,ss,sf,mc,mh,cy,cz,qi,qo,cw,cl,_⟩,⟨Gj,Sz,wq,pe2,pc2,rr2,rt2,rl2,ro2,ra2,sr2,sl2,ss2,sf2,mc2,mh2,zaT,zaU,qi2,qo2,cw2,cl2,_⟩,_⟩ K=>K (.l (.v (.bool (Po ⟨⟨⟨fb,fq,fst⟩,pe,pc,⟨rr,rt,rl,ro,ra⟩,⟨sr,sl,ss,sf⟩,⟨mc,mh,cy,cz⟩⟩,qi,qo,cw,cl⟩ ⟨⟨⟨Gj,Sz,wq⟩,pe2,pc2,⟨rr2,rt2,rl2,ro2,ra2⟩,⟨sr2,sl2,ss2,sf2⟩,⟨mc2,mh2,zaT,zaU⟩⟩,qi2,qo2,cw2,cl2⟩))))
theorem zKC:ji al.prog 61 [oc,oc] zIj:=by
 refine bh (TR:=ja) aS aH zJz (Rn.fM Tryz.func61) rfl ?_
 dsimp only[DA,HL,Sh.T]
 rintro⟨⟨fb,fq,fst,pe,pc,rr,rt,rl,ro,ra,sr,sl,ss,sf,mc,mh,cy,cz,qi,qo,cw,cl,_⟩,⟨Gj,Sz,wq,pe2,pc2,rr2,rt2,rl2,ro2,ra2,sr2,sl2,ss2,sf2,mc2,mh2,zaT,zaU,qi2,qo2,cw2,cl2,_⟩,_⟩ K hK _
 dsimp only[zIj] at hK
 repeat' (conv=>whnf);first|refine az.mk ?_ ?_;exact gS|refine End.mk ?_|apply gU;exact gA|refine gB ?_ ?_<;>intro hb h<;>try exact c8
 all_goals
  (refine gI hK ?_;repeat' first|exact gR|refine az.mk ?_ ?_)
  simp_all [Po]
def zI7:CS:=dn [oc,oc] zIj
theorem zJY:bW al.prog 61 zI7:=bH zKC
def zIJ:Env:=[(94,zKu),(95,zIZ)]
theorem zJJ:bg al.prog zIJ:=aC ⟨zK2,zIW,trivial⟩
def zJg:CS:=Jt jV zIJ ja Tryz.f59
theorem zJ7:bW al.prog 59 zJg:=iy aS aH zJJ (Rn.fM Tryz.func59)
def zIe:Env:=[(100,zJf),(101,zIi)]
theorem zIR:bg al.prog zIe:=aC ⟨zJ6,zIt,trivial⟩
def zIB:CS:=Jt jV zIe ja Tryz.f62
theorem zJv:bW al.prog 62 zIB:=iy aS aH zIR (Rn.fM Tryz.func62)
def zIc:Env:=[(102,zJc),(103,zIh)]
theorem zIP:bg al.prog zIc:=aC ⟨zJ3,zIs,trivial⟩
def zIz:CS:=Jt jV zIc ja Tryz.f63
theorem zJt:bW al.prog 63 zIz:=iy aS aH zIP (Rn.fM Tryz.func63)
def zLy:Env:=[(60,zJi)]
theorem zKm:bg al.prog zLy:=aC ⟨zJ9,trivial⟩
def zI5:DA [qx]->(DV->Prop)->Prop:=λ⟨⟨fO,fW,cu,gC,gu,gL,gN,fP,gH,gE,fF,eM,fg,fC,gw,gy,cI,cK,lL,lJ,nc,m9,fN,fU,cq,gD,gv,gM,gP,fe,gJ,gG,fG,eQ,fH,fE,gx,gz,cJ,cL,ll,lM,ng,na,_⟩,_⟩ K=>K (.a (yx.d ⟨⟨⟨⟨fO,fW,cu⟩,gC,gu,⟨gL,gN,fP,gH,gE⟩,⟨fF,eM,fg,fC⟩,⟨gw,gy,cI,cK⟩⟩,lL,lJ,nc,m9⟩,⟨⟨⟨fN,fU,cq⟩,gD,gv,⟨gM,gP,fe,gJ,gG⟩,⟨fG,eQ,fH,fE⟩,⟨gx,gz,cJ,cL⟩⟩,ll,lM,ng,na⟩⟩))
theorem zLq:ji al.prog 32 [qx] zI5:=by
 refine bh (TR:=ja) aS aH zKm (Rn.fM Tryz.func32) rfl ?_
 dsimp only[DA,HL,Sh.T]
 rintro⟨⟨fO,fW,cu,gC,gu,gL,gN,fP,gH,gE,fF,eM,fg,fC,gw,gy,cI,cK,lL,lJ,nc,m9,fN,fU,cq,gD,gv,gM,gP,fe,gJ,gG,fG,eQ,fH,fE,gx,gz,cJ,cL,ll,lM,ng,na,_⟩,_⟩ K hK _
 dsimp only[zI5] at hK
 exact gW
def zKw:CS:=dn [qx] zI5
theorem zK4:bW al.prog 32 zKw:=bH zLq
def zLu:Env:=[(61,zI7)]
theorem zKe:bg al.prog zLu:=aC ⟨zJY,trivial⟩
def zI3:DA [qx,qx]->(DV->Prop)->Prop:=λ⟨⟨fO,fW,cu,gC,gu,gL,gN,fP,gH,gE,fF,eM,fg,fC,gw,gy,cI,cK,lL,lJ,nc,m9,fN,fU,cq,gD,gv,gM,gP,fe,gJ,gG,fG,eQ,fH,fE,gx,gz,cJ,cL,ll,lM,ng,na,_⟩,⟨fbC,fqC,zee,peC,pcC,rrC,rtC,rlC,roC,raC,srC,slC,ssC,sfC,mcC,mhC,zek,zem,qiC,qoC,cwC,clC,fbD,fqD,zef,peD,pcD,rrD,rtD,rlD,roD,raD,srD,slD,ssD,sfD,mcD,mhD,zel,zen,qiD,qoD,cwD,clD,_⟩,_⟩ K=>K (.l (.v (.bool (YP ⟨⟨⟨⟨fO,fW,cu⟩,gC,gu,⟨gL,gN,fP,gH,gE⟩,⟨fF,eM,fg,fC⟩,⟨gw,gy,cI,cK⟩⟩,lL,lJ,nc,m9⟩,⟨⟨⟨fN,fU,cq⟩,gD,gv,⟨gM,gP,fe,gJ,gG⟩,⟨fG,eQ,fH,fE⟩,⟨gx,gz,cJ,cL⟩⟩,ll,lM,ng,na⟩⟩ ⟨⟨⟨⟨fbC,fqC,zee⟩,peC,pcC,⟨rrC,rtC,rlC,roC,raC⟩,⟨srC,slC,ssC,sfC⟩,⟨mcC,mhC,zek,zem⟩⟩,qiC,qoC,cwC,clC⟩,⟨⟨⟨fbD,fqD,zef⟩,peD,pcD,⟨rrD,rtD,rlD,roD,raD⟩,⟨srD,slD,ssD,sfD⟩,⟨mcD,mhD,zel,zen⟩⟩,qiD,qoD,cwD,clD⟩⟩))))
theorem zLm:ji al.prog 33 [qx,qx] zI3:=by
 refine bh (TR:=ja) aS aH zKe (Rn.fM Tryz.func33) rfl ?_
 dsimp only[DA,HL,Sh.T]
 rintro⟨⟨fO,fW,cu,gC,gu,gL,gN,fP,gH,gE,fF,eM,fg,fC,gw,gy,cI,cK,lL,lJ,nc,m9,fN,fU,cq,gD,gv,gM,gP,fe,gJ,gG,fG,eQ,fH,fE,gx,gz,cJ,cL,ll,lM,ng,na,_⟩,⟨fbC,fqC,zee,peC,pcC,rrC,rtC,rlC,roC,raC,srC,slC,ssC,sfC,mcC,mhC,zek,zem,qiC,qoC,cwC,clC,fbD,fqD,zef,peD,pcD,rrD,rtD,rlD,roD,raD,srD,slD,ssD,sfD,mcD,mhD,zel,zen,qiD,qoD,cwD,clD,_⟩,_⟩ K hK _
 dsimp only[zI3] at hK
 repeat' (conv=>whnf);first|refine az.mk ?_ ?_;exact gS|refine End.mk ?_|apply gU;exact gA|refine gB ?_ ?_<;>intro hb h<;>try exact c8
 all_goals
  (refine gI hK ?_;repeat' first|exact gR|refine az.mk ?_ ?_)
  simp_all [YP]
def zKq:CS:=dn [qx,qx] zI3
theorem zKY:bW al.prog 33 zKq:=bH zLm
def zJn:Env:=[(59,zJg)]
theorem zKi:bg al.prog zJn:=aC ⟨zJ7,trivial⟩
def zKt:CS:=Jt jV zJn ja Tryz.f31
theorem zK1:bW al.prog 31 zKt:=iy aS aH zKi (Rn.fM Tryz.func31)
def zIH:Env:=[(62,zIB)]
theorem zJH:bg al.prog zIH:=aC ⟨zJv,trivial⟩
def zJe:CS:=Jt jV zIH ja Tryz.f34
theorem zJ5:bW al.prog 34 zJe:=iy aS aH zJH (Rn.fM Tryz.func34)
def zIF:Env:=[(63,zIz)]
theorem zJE:bg al.prog zIF:=aC ⟨zJt,trivial⟩
def zJb:CS:=Jt jV zIF ja Tryz.f35
theorem zJ2:bW al.prog 35 zJb:=iy aS aH zJE (Rn.fM Tryz.func35)
end
end Go.Proofs.YtdpfknhenjngcaaGreatDoor
