/-
  What the exact laws do with drivers and links: copies, comparisons, marks.
-/
import Derived.Test.YtffngipmjbffkaaGreatDoorExP
import Derived.Test.YtffngipmjbffkaaGreatDoorExT
import Derived.Test.YtffngipmjbffkaaGreatDoorM6
namespace Go.Proofs.YtffngipmjbffkaaGreatDoor
open Go.RowKit
open Ab
set_option linter.unusedSimpArgs false
set_option linter.unusedVariables false

theorem law_con2 {f : FuncId} {ss tt : List Sh} (con : Con Tryz.prog f [.inr ss, .inr tt] (fun _ K => K (.l (.v (.bool true))))) {w : World} {x : HL ss} {y : HL tt} {us vs : List Value} (hr : rds w ss x us) (hy : rds w tt y vs) :
    Calls Tryz.prog f #[.agg us.toArray, .agg vs.toArray] w fun e w' => e = .returned (.bool true) ∧ Below w.heap.size w w' := by
  refine (con (x, y, ()) (fun d => d = .l (.v (.bool true))) rfl w #[.agg us.toArray, .agg vs.toArray] ⟨⟨_, rfl, by simpa using hr⟩, ⟨_, rfl, by simpa using hy⟩, trivial⟩).mono ?_
  rintro e w' ⟨d, u, rfl, rfl, hb, bs, h1, _⟩
  obtain ⟨rfl, _⟩ := h1
  exact ⟨rfl, hb⟩

def env_l_toDriver : Env := [(42, c_l_toPort), (43, c_l_toIntS)]
theorem env_l_toDriver_ok : EnvOk Tryz.prog env_l_toDriver := envAll_ok ⟨c_l_toPort_ok, c_l_toIntS_ok, trivial⟩
def tr_l_toDriver : Nat → Tr := fun n => match n with
  | _ => .nil
set_option maxRecDepth 100000 in
set_option maxHeartbeats 2000000 in
theorem con_l_toDriver : Con Tryz.prog 18 [.inr [.int, .int, .int, .int, .int, .int, .int, .gots, .bool, .int, .int, .ints, .int, .int, .bool, .bool, .bool, .bool, .ints, .ints, .int, .int]] (fun ⟨⟨fb, fq, fst, pe, pc, rr, rt, rl, ro, ra, sr, sl, ss, sf, mc, mh, mcc, mhc, qi, qo, cw, cl, _⟩, _⟩ K => K (.a (Drv.d ⟨⟨⟨fb, fq, fst⟩, pe, pc, ⟨rr, rt, rl, ro, ra⟩, ⟨sr, sl, ss, sf⟩, ⟨mc, mh, mcc, mhc⟩⟩, qi, qo, cw, cl⟩))) := by
  refine con_ofN (TR := tr_l_toDriver) tab_ok mixed_ok env_l_toDriver_ok Tryz.func18 rfl ?_
  rintro ⟨⟨(fb : Int), (fq : Int), (fst : Int), (pe : Int), (pc : Int), (rr : Int), (rt : Int), (rl : List (Int × Int)), (ro : Bool), (ra : Int), (sr : Int), (sl : List Int), (ss : Int), (sf : Int), (mc : Bool), (mh : Bool), (mcc : Bool), (mhc : Bool), (qi : List Int), (qo : List Int), (cw : Int), (cl : Int), _⟩, _⟩ K hK _
  replace hK : K (.a (Drv.d ⟨⟨⟨fb, fq, fst⟩, pe, pc, ⟨rr, rt, rl, ro, ra⟩, ⟨sr, sl, ss, sf⟩, ⟨mc, mh, mcc, mhc⟩⟩, qi, qo, cw, cl⟩)) := hK
  repeat' ((conv => whnf); (first | (refine Side.mk ?_ ?_; focus (first | omega | with_reducible assumption | kernel_rfl | exact rfl | (with_reducible first | omega | exact rngI (by omega) | (and_intros <;> first | trivial | omega | exact rngI (by omega))) | (dsimp only [EL.len]; with_reducible first | omega | exact rngI (by omega) | (and_intros <;> first | trivial | omega | exact rngI (by omega))) | with_reducible exact rngB (by omega) | with_reducible exact rngI ⟨by decide, by decide⟩ | exact ⟨rfl, trivial⟩ | exact ⟨rfl, rfl, trivial⟩ | exact ⟨⟨rfl, rfl, rfl, rfl⟩, trivial⟩ | (show (_ : Int) ≤ _ ∧ (_ : Int) ≤ _; omega) | (show (_ : Int) ≤ _; omega) | (simp only [EL.len, EL.sz, EL.take, EL.drop, maxL, la, ln, lc, ld, lt, ls, lna]; with_reducible first | omega | exact rngI (by omega) | (and_intros <;> first | trivial | omega | exact rngI (by omega))) | (simp only [EL.len, EL.sz, EL.take, EL.drop, maxL, la, ln, lc, ld, lt, ls, lna] at *; with_reducible first | omega | exact rngI (by omega) | (and_intros <;> first | trivial | omega | exact rngI (by omega))))) | (refine End.mk ?_; exact hF) | refine End.mk ?_ | refine brT ?_ | refine brF ?_ | (refine brT' ?_ ?_; focus with_reducible assumption) | (refine brF' ?_ ?_; focus with_reducible assumption) | (refine Br.mk ?_ ?_ <;> (intro hb; have h := hb; (try simp only [decide_eq_true_eq, decide_eq_false_iff_not, Bool.not_eq_true', Bool.not_eq_false', Bool.not_eq_eq_eq_not, Bool.not_true, Bool.not_false, ge_iff_le, gt_iff_lt, Bool.and_eq_true, Bool.and_eq_false_iff, Bool.or_eq_true, Bool.or_eq_false_iff, beq_self_eq_true, not_true_eq_false, and_self, Bool.true_eq_false, Bool.false_eq_true, not_false_eq_true] at h); (try dsimp only [EL.len] at h); (try (exfalso; first | omega | exact bnF h (by with_reducible assumption) | exact bnT h (by with_reducible assumption))))) | (refine fun (y : Int) (h0 : 0 ≤ y) h1 => ?_)))
  (refine Exists.intro _ (And.intro ?_ hK); repeat' (first | (refine Side.mk ?_ ?_; focus (first | with_reducible exact rfl | exact Eq.refl true | exact Eq.refl false)) | (refine Side.mk ?_ ?_) | exact True.intro)); all_goals (first | exact rfl | (simp; done))
def c_l_toDriver : CS := csOf [.inr [.int, .int, .int, .int, .int, .int, .int, .gots, .bool, .int, .int, .ints, .int, .int, .bool, .bool, .bool, .bool, .ints, .ints, .int, .int]] (fun ⟨⟨fb, fq, fst, pe, pc, rr, rt, rl, ro, ra, sr, sl, ss, sf, mc, mh, mcc, mhc, qi, qo, cw, cl, _⟩, _⟩ K => K (.a (Drv.d ⟨⟨⟨fb, fq, fst⟩, pe, pc, ⟨rr, rt, rl, ro, ra⟩, ⟨sr, sl, ss, sf⟩, ⟨mc, mh, mcc, mhc⟩⟩, qi, qo, cw, cl⟩)))
theorem c_l_toDriver_ok : CSok Tryz.prog 18 c_l_toDriver := cs_ok (by kernel_rfl) con_l_toDriver

def env_l_eqDriver : Env := [(44, c_l_eqPort), (45, c_l_eqIntS)]
theorem env_l_eqDriver_ok : EnvOk Tryz.prog env_l_eqDriver := envAll_ok ⟨c_l_eqPort_ok, c_l_eqIntS_ok, trivial⟩
def tr_l_eqDriver : Nat → Tr := fun n => match n with
  | _ => .nil
set_option maxRecDepth 100000 in
set_option maxHeartbeats 2000000 in
theorem con_l_eqDriver : Con Tryz.prog 19 [.inr [.int, .int, .int, .int, .int, .int, .int, .gots, .bool, .int, .int, .ints, .int, .int, .bool, .bool, .bool, .bool, .ints, .ints, .int, .int], .inr [.int, .int, .int, .int, .int, .int, .int, .gots, .bool, .int, .int, .ints, .int, .int, .bool, .bool, .bool, .bool, .ints, .ints, .int, .int]] (fun ⟨⟨fb, fq, fst, pe, pc, rr, rt, rl, ro, ra, sr, sl, ss, sf, mc, mh, mcc, mhc, qi, qo, cw, cl, _⟩, ⟨fb2, fq2, fst2, pe2, pc2, rr2, rt2, rl2, ro2, ra2, sr2, sl2, ss2, sf2, mc2, mh2, mcc2, mhc2, qi2, qo2, cw2, cl2, _⟩, _⟩ K => K (.l (.v (.bool (sameD ⟨⟨⟨fb, fq, fst⟩, pe, pc, ⟨rr, rt, rl, ro, ra⟩, ⟨sr, sl, ss, sf⟩, ⟨mc, mh, mcc, mhc⟩⟩, qi, qo, cw, cl⟩ ⟨⟨⟨fb2, fq2, fst2⟩, pe2, pc2, ⟨rr2, rt2, rl2, ro2, ra2⟩, ⟨sr2, sl2, ss2, sf2⟩, ⟨mc2, mh2, mcc2, mhc2⟩⟩, qi2, qo2, cw2, cl2⟩))))) := by
  refine con_ofN (TR := tr_l_eqDriver) tab_ok mixed_ok env_l_eqDriver_ok Tryz.func19 rfl ?_
  rintro ⟨⟨(fb : Int), (fq : Int), (fst : Int), (pe : Int), (pc : Int), (rr : Int), (rt : Int), (rl : List (Int × Int)), (ro : Bool), (ra : Int), (sr : Int), (sl : List Int), (ss : Int), (sf : Int), (mc : Bool), (mh : Bool), (mcc : Bool), (mhc : Bool), (qi : List Int), (qo : List Int), (cw : Int), (cl : Int), _⟩, ⟨(fb2 : Int), (fq2 : Int), (fst2 : Int), (pe2 : Int), (pc2 : Int), (rr2 : Int), (rt2 : Int), (rl2 : List (Int × Int)), (ro2 : Bool), (ra2 : Int), (sr2 : Int), (sl2 : List Int), (ss2 : Int), (sf2 : Int), (mc2 : Bool), (mh2 : Bool), (mcc2 : Bool), (mhc2 : Bool), (qi2 : List Int), (qo2 : List Int), (cw2 : Int), (cl2 : Int), _⟩, _⟩ K hK _
  replace hK : K (.l (.v (.bool (sameD ⟨⟨⟨fb, fq, fst⟩, pe, pc, ⟨rr, rt, rl, ro, ra⟩, ⟨sr, sl, ss, sf⟩, ⟨mc, mh, mcc, mhc⟩⟩, qi, qo, cw, cl⟩ ⟨⟨⟨fb2, fq2, fst2⟩, pe2, pc2, ⟨rr2, rt2, rl2, ro2, ra2⟩, ⟨sr2, sl2, ss2, sf2⟩, ⟨mc2, mh2, mcc2, mhc2⟩⟩, qi2, qo2, cw2, cl2⟩)))) := hK
  repeat' ((conv => whnf); (first | (refine Side.mk ?_ ?_; focus (first | omega | with_reducible assumption | kernel_rfl | exact rfl | (with_reducible first | omega | exact rngI (by omega) | (and_intros <;> first | trivial | omega | exact rngI (by omega))) | (dsimp only [EL.len]; with_reducible first | omega | exact rngI (by omega) | (and_intros <;> first | trivial | omega | exact rngI (by omega))) | with_reducible exact rngB (by omega) | with_reducible exact rngI ⟨by decide, by decide⟩ | exact ⟨rfl, trivial⟩ | exact ⟨rfl, rfl, trivial⟩ | exact ⟨⟨rfl, rfl, rfl, rfl⟩, trivial⟩ | (show (_ : Int) ≤ _ ∧ (_ : Int) ≤ _; omega) | (show (_ : Int) ≤ _; omega) | (simp only [EL.len, EL.sz, EL.take, EL.drop, maxL, la, ln, lc, ld, lt, ls, lna]; with_reducible first | omega | exact rngI (by omega) | (and_intros <;> first | trivial | omega | exact rngI (by omega))) | (simp only [EL.len, EL.sz, EL.take, EL.drop, maxL, la, ln, lc, ld, lt, ls, lna] at *; with_reducible first | omega | exact rngI (by omega) | (and_intros <;> first | trivial | omega | exact rngI (by omega))))) | (refine End.mk ?_; exact hF) | refine End.mk ?_ | refine brT ?_ | refine brF ?_ | (refine brT' ?_ ?_; focus with_reducible assumption) | (refine brF' ?_ ?_; focus with_reducible assumption) | (refine Br.mk ?_ ?_ <;> (intro hb; have h := hb; (try simp only [decide_eq_true_eq, decide_eq_false_iff_not, Bool.not_eq_true', Bool.not_eq_false', Bool.not_eq_eq_eq_not, Bool.not_true, Bool.not_false, ge_iff_le, gt_iff_lt, Bool.and_eq_true, Bool.and_eq_false_iff, Bool.or_eq_true, Bool.or_eq_false_iff, beq_self_eq_true, not_true_eq_false, and_self, Bool.true_eq_false, Bool.false_eq_true, not_false_eq_true] at h); (try dsimp only [EL.len] at h); (try (exfalso; first | omega | exact bnF h (by with_reducible assumption) | exact bnT h (by with_reducible assumption))))) | (refine fun (y : Int) (h0 : 0 ≤ y) h1 => ?_)))
  all_goals
    (refine Exists.intro _ (And.intro ?_ hK); repeat' (first | (refine Side.mk ?_ ?_; focus (first | with_reducible exact rfl | exact Eq.refl true | exact Eq.refl false)) | (refine Side.mk ?_ ?_) | exact True.intro))
    simp_all [sameD]
def c_l_eqDriver : CS := csOf [.inr [.int, .int, .int, .int, .int, .int, .int, .gots, .bool, .int, .int, .ints, .int, .int, .bool, .bool, .bool, .bool, .ints, .ints, .int, .int], .inr [.int, .int, .int, .int, .int, .int, .int, .gots, .bool, .int, .int, .ints, .int, .int, .bool, .bool, .bool, .bool, .ints, .ints, .int, .int]] (fun ⟨⟨fb, fq, fst, pe, pc, rr, rt, rl, ro, ra, sr, sl, ss, sf, mc, mh, mcc, mhc, qi, qo, cw, cl, _⟩, ⟨fb2, fq2, fst2, pe2, pc2, rr2, rt2, rl2, ro2, ra2, sr2, sl2, ss2, sf2, mc2, mh2, mcc2, mhc2, qi2, qo2, cw2, cl2, _⟩, _⟩ K => K (.l (.v (.bool (sameD ⟨⟨⟨fb, fq, fst⟩, pe, pc, ⟨rr, rt, rl, ro, ra⟩, ⟨sr, sl, ss, sf⟩, ⟨mc, mh, mcc, mhc⟩⟩, qi, qo, cw, cl⟩ ⟨⟨⟨fb2, fq2, fst2⟩, pe2, pc2, ⟨rr2, rt2, rl2, ro2, ra2⟩, ⟨sr2, sl2, ss2, sf2⟩, ⟨mc2, mh2, mcc2, mhc2⟩⟩, qi2, qo2, cw2, cl2⟩)))))
theorem c_l_eqDriver_ok : CSok Tryz.prog 19 c_l_eqDriver := cs_ok (by kernel_rfl) con_l_eqDriver

def env_l_szDriver : Env := [(40, c_l_szPort), (41, c_l_szIntS)]
theorem env_l_szDriver_ok : EnvOk Tryz.prog env_l_szDriver := envAll_ok ⟨c_l_szPort_ok, c_l_szIntS_ok, trivial⟩
def tr_l_szDriver : Nat → Tr := fun n => match n with
  | _ => .nil
def c_l_szDriver : CS := csN tab env_l_szDriver tr_l_szDriver Tryz.f17
theorem c_l_szDriver_ok : CSok Tryz.prog 17 c_l_szDriver := csN_ok tab_ok mixed_ok env_l_szDriver_ok Tryz.func17 (by kernel_rfl)
def env_l_markDriver : Env := [(46, c_l_markPort), (47, c_l_markIntS)]
theorem env_l_markDriver_ok : EnvOk Tryz.prog env_l_markDriver := envAll_ok ⟨c_l_markPort_ok, c_l_markIntS_ok, trivial⟩
def tr_l_markDriver : Nat → Tr := fun n => match n with
  | _ => .nil
def c_l_markDriver : CS := csN tab env_l_markDriver tr_l_markDriver Tryz.f20
theorem c_l_markDriver_ok : CSok Tryz.prog 20 c_l_markDriver := csN_ok tab_ok mixed_ok env_l_markDriver_ok Tryz.func20 (by kernel_rfl)
def env_l_heldDriver : Env := [(48, c_l_heldPort), (49, c_l_heldIntS)]
theorem env_l_heldDriver_ok : EnvOk Tryz.prog env_l_heldDriver := envAll_ok ⟨c_l_heldPort_ok, c_l_heldIntS_ok, trivial⟩
def tr_l_heldDriver : Nat → Tr := fun n => match n with
  | _ => .nil
def c_l_heldDriver : CS := csN tab env_l_heldDriver tr_l_heldDriver Tryz.f21
theorem c_l_heldDriver_ok : CSok Tryz.prog 21 c_l_heldDriver := csN_ok tab_ok mixed_ok env_l_heldDriver_ok Tryz.func21 (by kernel_rfl)




end Go.Proofs.YtffngipmjbffkaaGreatDoor
