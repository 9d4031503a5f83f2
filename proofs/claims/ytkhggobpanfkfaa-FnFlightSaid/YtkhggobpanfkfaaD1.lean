/-
  Drivers: copies, and what is valid; by the abstract walk.
-/
import Derived.Test.YtkhggobpanfkfaaM6
import Derived.Test.YtkhggobpanfkfaaP4
namespace Go.Proofs.Ytkhggobpanfkfaa
open Go.RowKit
open Ab
set_option linter.unusedSimpArgs false
set_option linter.unusedVariables false

def env_i_driverCopy : Env := [(56, c_i_portCopy)]
theorem env_i_driverCopy_ok : EnvOk Try.prog env_i_driverCopy := envAll_ok ⟨c_i_portCopy_ok, trivial⟩
def tr_i_driverCopy : Nat → Tr := fun n => match n with
  | _ => .nil
set_option maxRecDepth 100000 in
set_option maxHeartbeats 2000000 in
theorem con_i_driverCopy : Con Try.prog 30 [.inr [.int, .int, .int, .int, .int, .int, .int, .gots, .bool, .int, .int, .ints, .int, .int, .bool, .bool, .bool, .bool, .ints, .ints, .int, .int]] (fun ⟨⟨fb, fq, fst, pe, pc, rr, rt, rl, ro, ra, sr, sl, ss, sf, mc, mh, mcc, mhc, qi, qo, cw, cl, _⟩, _⟩ K => K (.a (Drv.d ⟨⟨⟨fb, fq, fst⟩, pe, pc, ⟨rr, rt, rl, ro, ra⟩, ⟨sr, sl, ss, sf⟩, ⟨mc, mh, mcc, mhc⟩⟩, qi, qo, cw, cl⟩))) := by
  refine con_ofN (TR := tr_i_driverCopy) tab_ok mixed_ok env_i_driverCopy_ok Try.func30 rfl ?_
  rintro ⟨⟨(fb : Int), (fq : Int), (fst : Int), (pe : Int), (pc : Int), (rr : Int), (rt : Int), (rl : List (Int × Int)), (ro : Bool), (ra : Int), (sr : Int), (sl : List Int), (ss : Int), (sf : Int), (mc : Bool), (mh : Bool), (mcc : Bool), (mhc : Bool), (qi : List Int), (qo : List Int), (cw : Int), (cl : Int), _⟩, _⟩ K hK ⟨⟨_, _, _, _, _, _, _, h1, _, _, _, h2, _, _, _, _, _, _, h3, h4, _⟩, _⟩
  replace hK : K (.a (Drv.d ⟨⟨⟨fb, fq, fst⟩, pe, pc, ⟨rr, rt, rl, ro, ra⟩, ⟨sr, sl, ss, sf⟩, ⟨mc, mh, mcc, mhc⟩⟩, qi, qo, cw, cl⟩)) := hK
  replace h1 : rl.length ≤ 1099511627776 := h1
  replace h2 : sl.length ≤ 1099511627776 := h2
  replace h3 : qi.length ≤ 1099511627776 := h3
  replace h4 : qo.length ≤ 1099511627776 := h4
  repeat' ((conv => whnf); (first | (refine Side.mk ?_ ?_; focus (first | omega | with_reducible assumption | kernel_rfl | exact rfl | (with_reducible first | omega | exact rngI (by omega) | (and_intros <;> first | trivial | omega | exact rngI (by omega))) | (dsimp only [EL.len]; with_reducible first | omega | exact rngI (by omega) | (and_intros <;> first | trivial | omega | exact rngI (by omega))) | with_reducible exact rngB (by omega) | with_reducible exact rngI ⟨by decide, by decide⟩ | exact ⟨rfl, trivial⟩ | exact ⟨rfl, rfl, trivial⟩ | exact ⟨⟨rfl, rfl, rfl, rfl⟩, trivial⟩ | (show (_ : Int) ≤ _ ∧ (_ : Int) ≤ _; omega) | (show (_ : Int) ≤ _; omega) | (simp only [EL.len, EL.sz, EL.take, EL.drop, maxL, la, ln, lc, ld, lt, ls, lna]; with_reducible first | omega | exact rngI (by omega) | (and_intros <;> first | trivial | omega | exact rngI (by omega))) | (simp only [EL.len, EL.sz, EL.take, EL.drop, maxL, la, ln, lc, ld, lt, ls, lna] at *; with_reducible first | omega | exact rngI (by omega) | (and_intros <;> first | trivial | omega | exact rngI (by omega))))) | (refine End.mk ?_; exact hF) | refine End.mk ?_ | refine brT ?_ | refine brF ?_ | (refine brT' ?_ ?_; focus with_reducible assumption) | (refine brF' ?_ ?_; focus with_reducible assumption) | (refine Br.mk ?_ ?_ <;> (intro hb; have h := hb; (try simp only [decide_eq_true_eq, decide_eq_false_iff_not, Bool.not_eq_true', Bool.not_eq_false', Bool.not_eq_eq_eq_not, Bool.not_true, Bool.not_false, ge_iff_le, gt_iff_lt, Bool.and_eq_true, Bool.and_eq_false_iff, Bool.or_eq_true, Bool.or_eq_false_iff, beq_self_eq_true, not_true_eq_false, and_self, Bool.true_eq_false, Bool.false_eq_true, not_false_eq_true] at h); (try dsimp only [EL.len] at h); (try (exfalso; first | omega | exact bnF h (by with_reducible assumption) | exact bnT h (by with_reducible assumption))))) | (refine fun (y : Int) (h0 : 0 ≤ y) h1 => ?_)))
  (refine Exists.intro _ (And.intro ?_ hK); repeat' (first | (refine Side.mk ?_ ?_; focus (first | with_reducible exact rfl | exact Eq.refl true | exact Eq.refl false)) | (refine Side.mk ?_ ?_) | exact True.intro)); all_goals (first | exact rfl | (simp; done))
def c_i_driverCopy : CS := csOf [.inr [.int, .int, .int, .int, .int, .int, .int, .gots, .bool, .int, .int, .ints, .int, .int, .bool, .bool, .bool, .bool, .ints, .ints, .int, .int]] (fun ⟨⟨fb, fq, fst, pe, pc, rr, rt, rl, ro, ra, sr, sl, ss, sf, mc, mh, mcc, mhc, qi, qo, cw, cl, _⟩, _⟩ K => K (.a (Drv.d ⟨⟨⟨fb, fq, fst⟩, pe, pc, ⟨rr, rt, rl, ro, ra⟩, ⟨sr, sl, ss, sf⟩, ⟨mc, mh, mcc, mhc⟩⟩, qi, qo, cw, cl⟩)))
theorem c_i_driverCopy_ok : CSok Try.prog 30 c_i_driverCopy := cs_ok (by kernel_rfl) con_i_driverCopy

def env_s_l21Copy : Env := [(48, c_s_l15Copy)]
theorem env_s_l21Copy_ok : EnvOk Try.prog env_s_l21Copy := envAll_ok ⟨c_s_l15Copy_ok, trivial⟩
def tr_s_l21Copy : Nat → Tr := fun n => match n with
  | _ => .nil
set_option maxRecDepth 100000 in
set_option maxHeartbeats 2000000 in
theorem con_s_l21Copy : Con Try.prog 23 [.inr [.int, .int, .int, .int, .int, .int, .int, .gots, .bool, .int, .int, .ints, .int, .int, .bool, .bool, .bool, .bool, .ints, .ints, .int, .int]] (fun ⟨⟨fb, fq, fst, pe, pc, rr, rt, rl, ro, ra, sr, sl, ss, sf, mc, mh, mcc, mhc, qi, qo, cw, cl, _⟩, _⟩ K => K (.a (Drv.d ⟨⟨⟨fb, fq, fst⟩, pe, pc, ⟨rr, rt, rl, ro, ra⟩, ⟨sr, sl, ss, sf⟩, ⟨mc, mh, mcc, mhc⟩⟩, qi, qo, cw, cl⟩))) := by
  refine con_ofN (TR := tr_s_l21Copy) tab_ok mixed_ok env_s_l21Copy_ok Try.func23 rfl ?_
  rintro ⟨⟨(fb : Int), (fq : Int), (fst : Int), (pe : Int), (pc : Int), (rr : Int), (rt : Int), (rl : List (Int × Int)), (ro : Bool), (ra : Int), (sr : Int), (sl : List Int), (ss : Int), (sf : Int), (mc : Bool), (mh : Bool), (mcc : Bool), (mhc : Bool), (qi : List Int), (qo : List Int), (cw : Int), (cl : Int), _⟩, _⟩ K hK ⟨⟨_, _, _, _, _, _, _, h1, _, _, _, h2, _, _, _, _, _, _, h3, h4, _⟩, _⟩
  replace hK : K (.a (Drv.d ⟨⟨⟨fb, fq, fst⟩, pe, pc, ⟨rr, rt, rl, ro, ra⟩, ⟨sr, sl, ss, sf⟩, ⟨mc, mh, mcc, mhc⟩⟩, qi, qo, cw, cl⟩)) := hK
  replace h1 : rl.length ≤ 1099511627776 := h1
  replace h2 : sl.length ≤ 1099511627776 := h2
  replace h3 : qi.length ≤ 1099511627776 := h3
  replace h4 : qo.length ≤ 1099511627776 := h4
  repeat' ((conv => whnf); (first | (refine Side.mk ?_ ?_; focus (first | omega | with_reducible assumption | kernel_rfl | exact rfl | (with_reducible first | omega | exact rngI (by omega) | (and_intros <;> first | trivial | omega | exact rngI (by omega))) | (dsimp only [EL.len]; with_reducible first | omega | exact rngI (by omega) | (and_intros <;> first | trivial | omega | exact rngI (by omega))) | with_reducible exact rngB (by omega) | with_reducible exact rngI ⟨by decide, by decide⟩ | exact ⟨rfl, trivial⟩ | exact ⟨rfl, rfl, trivial⟩ | exact ⟨⟨rfl, rfl, rfl, rfl⟩, trivial⟩ | (show (_ : Int) ≤ _ ∧ (_ : Int) ≤ _; omega) | (show (_ : Int) ≤ _; omega) | (simp only [EL.len, EL.sz, EL.take, EL.drop, maxL, la, ln, lc, ld, lt, ls, lna]; with_reducible first | omega | exact rngI (by omega) | (and_intros <;> first | trivial | omega | exact rngI (by omega))) | (simp only [EL.len, EL.sz, EL.take, EL.drop, maxL, la, ln, lc, ld, lt, ls, lna] at *; with_reducible first | omega | exact rngI (by omega) | (and_intros <;> first | trivial | omega | exact rngI (by omega))))) | (refine End.mk ?_; exact hF) | refine End.mk ?_ | refine brT ?_ | refine brF ?_ | (refine brT' ?_ ?_; focus with_reducible assumption) | (refine brF' ?_ ?_; focus with_reducible assumption) | (refine Br.mk ?_ ?_ <;> (intro hb; have h := hb; (try simp only [decide_eq_true_eq, decide_eq_false_iff_not, Bool.not_eq_true', Bool.not_eq_false', Bool.not_eq_eq_eq_not, Bool.not_true, Bool.not_false, ge_iff_le, gt_iff_lt, Bool.and_eq_true, Bool.and_eq_false_iff, Bool.or_eq_true, Bool.or_eq_false_iff, beq_self_eq_true, not_true_eq_false, and_self, Bool.true_eq_false, Bool.false_eq_true, not_false_eq_true] at h); (try dsimp only [EL.len] at h); (try (exfalso; first | omega | exact bnF h (by with_reducible assumption) | exact bnT h (by with_reducible assumption))))) | (refine fun (y : Int) (h0 : 0 ≤ y) h1 => ?_)))
  (refine Exists.intro _ (And.intro ?_ hK); repeat' (first | (refine Side.mk ?_ ?_; focus (first | with_reducible exact rfl | exact Eq.refl true | exact Eq.refl false)) | (refine Side.mk ?_ ?_) | exact True.intro)); all_goals (first | exact rfl | (simp; done))
def c_s_l21Copy : CS := csOf [.inr [.int, .int, .int, .int, .int, .int, .int, .gots, .bool, .int, .int, .ints, .int, .int, .bool, .bool, .bool, .bool, .ints, .ints, .int, .int]] (fun ⟨⟨fb, fq, fst, pe, pc, rr, rt, rl, ro, ra, sr, sl, ss, sf, mc, mh, mcc, mhc, qi, qo, cw, cl, _⟩, _⟩ K => K (.a (Drv.d ⟨⟨⟨fb, fq, fst⟩, pe, pc, ⟨rr, rt, rl, ro, ra⟩, ⟨sr, sl, ss, sf⟩, ⟨mc, mh, mcc, mhc⟩⟩, qi, qo, cw, cl⟩)))
theorem c_s_l21Copy_ok : CSok Try.prog 23 c_s_l21Copy := cs_ok (by kernel_rfl) con_s_l21Copy

def env_i_ringValid : Env := [(42, c_i_allBytes)]
theorem env_i_ringValid_ok : EnvOk Try.prog env_i_ringValid := envAll_ok ⟨c_i_allBytes_ok, trivial⟩
def tr_i_ringValid : Nat → Tr := fun n => match n with
  | _ => .nil
set_option maxRecDepth 100000 in
set_option maxHeartbeats 2000000 in
theorem con_i_ringValid : Con Try.prog 54 [.inl .ints] (fun ⟨l, _⟩ K => K (.l (.v (.bool (ringV l))))) := by
  refine con_ofN (TR := tr_i_ringValid) tab_ok mixed_ok env_i_ringValid_ok Try.func54 rfl ?_
  rintro ⟨(l : List Int), _⟩ K hK _
  replace hK : K (.l (.v (.bool (ringV l)))) := hK
  repeat' ((conv => whnf); (first | (refine Side.mk ?_ ?_; focus (first | omega | with_reducible assumption | kernel_rfl | exact rfl | (with_reducible first | omega | exact rngI (by omega) | (and_intros <;> first | trivial | omega | exact rngI (by omega))) | (dsimp only [EL.len]; with_reducible first | omega | exact rngI (by omega) | (and_intros <;> first | trivial | omega | exact rngI (by omega))) | with_reducible exact rngB (by omega) | with_reducible exact rngI ⟨by decide, by decide⟩ | exact ⟨rfl, trivial⟩ | exact ⟨rfl, rfl, trivial⟩ | exact ⟨⟨rfl, rfl, rfl, rfl⟩, trivial⟩ | (show (_ : Int) ≤ _ ∧ (_ : Int) ≤ _; omega) | (show (_ : Int) ≤ _; omega) | (simp only [EL.len, EL.sz, EL.take, EL.drop, maxL, la, ln, lc, ld, lt, ls, lna]; with_reducible first | omega | exact rngI (by omega) | (and_intros <;> first | trivial | omega | exact rngI (by omega))) | (simp only [EL.len, EL.sz, EL.take, EL.drop, maxL, la, ln, lc, ld, lt, ls, lna] at *; with_reducible first | omega | exact rngI (by omega) | (and_intros <;> first | trivial | omega | exact rngI (by omega))))) | (refine End.mk ?_; exact hF) | refine End.mk ?_ | refine brT ?_ | refine brF ?_ | (refine brT' ?_ ?_; focus with_reducible assumption) | (refine brF' ?_ ?_; focus with_reducible assumption) | (refine Br.mk ?_ ?_ <;> (intro hb; have h := hb; (try simp only [decide_eq_true_eq, decide_eq_false_iff_not, Bool.not_eq_true', Bool.not_eq_false', Bool.not_eq_eq_eq_not, Bool.not_true, Bool.not_false, ge_iff_le, gt_iff_lt, Bool.and_eq_true, Bool.and_eq_false_iff, Bool.or_eq_true, Bool.or_eq_false_iff, beq_self_eq_true, not_true_eq_false, and_self, Bool.true_eq_false, Bool.false_eq_true, not_false_eq_true] at h); (try dsimp only [EL.len] at h); (try (exfalso; first | omega | exact bnF h (by with_reducible assumption) | exact bnT h (by with_reducible assumption))))) | (refine fun (y : Int) (h0 : 0 ≤ y) h1 => ?_)))
  all_goals
    (refine Exists.intro _ (And.intro ?_ hK); repeat' (first | (refine Side.mk ?_ ?_; focus (first | with_reducible exact rfl | exact Eq.refl true | exact Eq.refl false)) | (refine Side.mk ?_ ?_) | exact True.intro))
    first
    | (simp_all [ringV]; done)
    | (simp_all [ringV]; intros; omega)
def c_i_ringValid : CS := csOf [.inl .ints] (fun ⟨l, _⟩ K => K (.l (.v (.bool (ringV l)))))
theorem c_i_ringValid_ok : CSok Try.prog 54 c_i_ringValid := cs_ok (by kernel_rfl) con_i_ringValid

def env_i_countValid : Env := []
theorem env_i_countValid_ok : EnvOk Try.prog env_i_countValid := envAll_ok trivial
def tr_i_countValid : Nat → Tr := fun n => match n with
  | _ => .nil
set_option maxRecDepth 100000 in
set_option maxHeartbeats 2000000 in
theorem con_i_countValid : Con Try.prog 55 [.inl .int] (fun ⟨n, _⟩ K => K (.l (.v (.bool (cntV n))))) := by
  refine con_ofN (TR := tr_i_countValid) tab_ok mixed_ok env_i_countValid_ok Try.func55 rfl ?_
  rintro ⟨(n : Int), _⟩ K hK _
  replace hK : K (.l (.v (.bool (cntV n)))) := hK
  repeat' ((conv => whnf); (first | (refine Side.mk ?_ ?_; focus (first | omega | with_reducible assumption | kernel_rfl | exact rfl | (with_reducible first | omega | exact rngI (by omega) | (and_intros <;> first | trivial | omega | exact rngI (by omega))) | (dsimp only [EL.len]; with_reducible first | omega | exact rngI (by omega) | (and_intros <;> first | trivial | omega | exact rngI (by omega))) | with_reducible exact rngB (by omega) | with_reducible exact rngI ⟨by decide, by decide⟩ | exact ⟨rfl, trivial⟩ | exact ⟨rfl, rfl, trivial⟩ | exact ⟨⟨rfl, rfl, rfl, rfl⟩, trivial⟩ | (show (_ : Int) ≤ _ ∧ (_ : Int) ≤ _; omega) | (show (_ : Int) ≤ _; omega) | (simp only [EL.len, EL.sz, EL.take, EL.drop, maxL, la, ln, lc, ld, lt, ls, lna]; with_reducible first | omega | exact rngI (by omega) | (and_intros <;> first | trivial | omega | exact rngI (by omega))) | (simp only [EL.len, EL.sz, EL.take, EL.drop, maxL, la, ln, lc, ld, lt, ls, lna] at *; with_reducible first | omega | exact rngI (by omega) | (and_intros <;> first | trivial | omega | exact rngI (by omega))))) | (refine End.mk ?_; exact hF) | refine End.mk ?_ | refine brT ?_ | refine brF ?_ | (refine brT' ?_ ?_; focus with_reducible assumption) | (refine brF' ?_ ?_; focus with_reducible assumption) | (refine Br.mk ?_ ?_ <;> (intro hb; have h := hb; (try simp only [decide_eq_true_eq, decide_eq_false_iff_not, Bool.not_eq_true', Bool.not_eq_false', Bool.not_eq_eq_eq_not, Bool.not_true, Bool.not_false, ge_iff_le, gt_iff_lt, Bool.and_eq_true, Bool.and_eq_false_iff, Bool.or_eq_true, Bool.or_eq_false_iff, beq_self_eq_true, not_true_eq_false, and_self, Bool.true_eq_false, Bool.false_eq_true, not_false_eq_true] at h); (try dsimp only [EL.len] at h); (try (exfalso; first | omega | exact bnF h (by with_reducible assumption) | exact bnT h (by with_reducible assumption))))) | (refine fun (y : Int) (h0 : 0 ≤ y) h1 => ?_)))
  all_goals
    (refine Exists.intro _ (And.intro ?_ hK); repeat' (first | (refine Side.mk ?_ ?_; focus (first | with_reducible exact rfl | exact Eq.refl true | exact Eq.refl false)) | (refine Side.mk ?_ ?_) | exact True.intro))
    first
    | (simp_all [cntV]; done)
    | (simp_all [cntV]; omega)
def c_i_countValid : CS := csOf [.inl .int] (fun ⟨n, _⟩ K => K (.l (.v (.bool (cntV n)))))
theorem c_i_countValid_ok : CSok Try.prog 55 c_i_countValid := cs_ok (by kernel_rfl) con_i_countValid

def env_i_DriverValid : Env := [(53, c_i_PortValid), (54, c_i_ringValid), (55, c_i_countValid)]
theorem env_i_DriverValid_ok : EnvOk Try.prog env_i_DriverValid := envAll_ok ⟨c_i_PortValid_ok, c_i_ringValid_ok, c_i_countValid_ok, trivial⟩
def tr_i_DriverValid : Nat → Tr := fun n => match n with
  | _ => .nil
set_option maxRecDepth 100000 in
set_option maxHeartbeats 2000000 in
theorem con_i_DriverValid : Con Try.prog 29 [.inr [.int, .int, .int, .int, .int, .int, .int, .gots, .bool, .int, .int, .ints, .int, .int, .bool, .bool, .bool, .bool, .ints, .ints, .int, .int]] (fun ⟨⟨fb, fq, fst, pe, pc, rr, rt, rl, ro, ra, sr, sl, ss, sf, mc, mh, mcc, mhc, qi, qo, cw, cl, _⟩, _⟩ K => K (.l (.v (.bool (drvV ⟨⟨⟨fb, fq, fst⟩, pe, pc, ⟨rr, rt, rl, ro, ra⟩, ⟨sr, sl, ss, sf⟩, ⟨mc, mh, mcc, mhc⟩⟩, qi, qo, cw, cl⟩))))) := by
  refine con_ofN (TR := tr_i_DriverValid) tab_ok mixed_ok env_i_DriverValid_ok Try.func29 rfl ?_
  rintro ⟨⟨(fb : Int), (fq : Int), (fst : Int), (pe : Int), (pc : Int), (rr : Int), (rt : Int), (rl : List (Int × Int)), (ro : Bool), (ra : Int), (sr : Int), (sl : List Int), (ss : Int), (sf : Int), (mc : Bool), (mh : Bool), (mcc : Bool), (mhc : Bool), (qi : List Int), (qo : List Int), (cw : Int), (cl : Int), _⟩, _⟩ K hK ⟨⟨_, _, _, _, _, _, _, h1, _, _, _, h2, _, _, _, _, _, _, h3, h4, _⟩, _⟩
  replace hK : K (.l (.v (.bool (drvV ⟨⟨⟨fb, fq, fst⟩, pe, pc, ⟨rr, rt, rl, ro, ra⟩, ⟨sr, sl, ss, sf⟩, ⟨mc, mh, mcc, mhc⟩⟩, qi, qo, cw, cl⟩)))) := hK
  replace h3 : qi.length ≤ 1099511627776 := h3
  replace h4 : qo.length ≤ 1099511627776 := h4
  repeat' ((conv => whnf); (first | (refine Side.mk ?_ ?_; focus (first | omega | with_reducible assumption | kernel_rfl | exact rfl | (with_reducible first | omega | exact rngI (by omega) | (and_intros <;> first | trivial | omega | exact rngI (by omega))) | (dsimp only [EL.len]; with_reducible first | omega | exact rngI (by omega) | (and_intros <;> first | trivial | omega | exact rngI (by omega))) | with_reducible exact rngB (by omega) | with_reducible exact rngI ⟨by decide, by decide⟩ | exact ⟨rfl, trivial⟩ | exact ⟨rfl, rfl, trivial⟩ | exact ⟨⟨rfl, rfl, rfl, rfl⟩, trivial⟩ | (show (_ : Int) ≤ _ ∧ (_ : Int) ≤ _; omega) | (show (_ : Int) ≤ _; omega) | (simp only [EL.len, EL.sz, EL.take, EL.drop, maxL, la, ln, lc, ld, lt, ls, lna]; with_reducible first | omega | exact rngI (by omega) | (and_intros <;> first | trivial | omega | exact rngI (by omega))) | (simp only [EL.len, EL.sz, EL.take, EL.drop, maxL, la, ln, lc, ld, lt, ls, lna] at *; with_reducible first | omega | exact rngI (by omega) | (and_intros <;> first | trivial | omega | exact rngI (by omega))))) | (refine End.mk ?_; exact hF) | refine End.mk ?_ | refine brT ?_ | refine brF ?_ | (refine brT' ?_ ?_; focus with_reducible assumption) | (refine brF' ?_ ?_; focus with_reducible assumption) | (refine Br.mk ?_ ?_ <;> (intro hb; have h := hb; (try simp only [decide_eq_true_eq, decide_eq_false_iff_not, Bool.not_eq_true', Bool.not_eq_false', Bool.not_eq_eq_eq_not, Bool.not_true, Bool.not_false, ge_iff_le, gt_iff_lt, Bool.and_eq_true, Bool.and_eq_false_iff, Bool.or_eq_true, Bool.or_eq_false_iff, beq_self_eq_true, not_true_eq_false, and_self, Bool.true_eq_false, Bool.false_eq_true, not_false_eq_true] at h); (try dsimp only [EL.len] at h); (try (exfalso; first | omega | exact bnF h (by with_reducible assumption) | exact bnT h (by with_reducible assumption))))) | (refine fun (y : Int) (h0 : 0 ≤ y) h1 => ?_)))
  all_goals
    (refine Exists.intro _ (And.intro ?_ hK); repeat' (first | (refine Side.mk ?_ ?_; focus (first | with_reducible exact rfl | exact Eq.refl true | exact Eq.refl false)) | (refine Side.mk ?_ ?_) | exact True.intro))
    simp_all [drvV]
def c_i_DriverValid : CS := csOf [.inr [.int, .int, .int, .int, .int, .int, .int, .gots, .bool, .int, .int, .ints, .int, .int, .bool, .bool, .bool, .bool, .ints, .ints, .int, .int]] (fun ⟨⟨fb, fq, fst, pe, pc, rr, rt, rl, ro, ra, sr, sl, ss, sf, mc, mh, mcc, mhc, qi, qo, cw, cl, _⟩, _⟩ K => K (.l (.v (.bool (drvV ⟨⟨⟨fb, fq, fst⟩, pe, pc, ⟨rr, rt, rl, ro, ra⟩, ⟨sr, sl, ss, sf⟩, ⟨mc, mh, mcc, mhc⟩⟩, qi, qo, cw, cl⟩)))))
theorem c_i_DriverValid_ok : CSok Try.prog 29 c_i_DriverValid := cs_ok (by kernel_rfl) con_i_DriverValid

def env_s_DriverValid : Env := [(46, c_s_PortValid), (47, c_s_l4Bytes), (45, c_s_l6In)]
theorem env_s_DriverValid_ok : EnvOk Try.prog env_s_DriverValid := envAll_ok ⟨c_s_PortValid_ok, c_s_l4Bytes_ok, c_s_l6In_ok, trivial⟩
def tr_s_DriverValid : Nat → Tr := fun n => match n with
  | _ => .nil
set_option maxRecDepth 100000 in
set_option maxHeartbeats 2000000 in
theorem con_s_DriverValid : Con Try.prog 22 [.inr [.int, .int, .int, .int, .int, .int, .int, .gots, .bool, .int, .int, .ints, .int, .int, .bool, .bool, .bool, .bool, .ints, .ints, .int, .int]] (fun ⟨⟨fb, fq, fst, pe, pc, rr, rt, rl, ro, ra, sr, sl, ss, sf, mc, mh, mcc, mhc, qi, qo, cw, cl, _⟩, _⟩ K => K (.l (.v (.bool (drvV ⟨⟨⟨fb, fq, fst⟩, pe, pc, ⟨rr, rt, rl, ro, ra⟩, ⟨sr, sl, ss, sf⟩, ⟨mc, mh, mcc, mhc⟩⟩, qi, qo, cw, cl⟩))))) := by
  refine con_ofN (TR := tr_s_DriverValid) tab_ok mixed_ok env_s_DriverValid_ok Try.func22 rfl ?_
  rintro ⟨⟨(fb : Int), (fq : Int), (fst : Int), (pe : Int), (pc : Int), (rr : Int), (rt : Int), (rl : List (Int × Int)), (ro : Bool), (ra : Int), (sr : Int), (sl : List Int), (ss : Int), (sf : Int), (mc : Bool), (mh : Bool), (mcc : Bool), (mhc : Bool), (qi : List Int), (qo : List Int), (cw : Int), (cl : Int), _⟩, _⟩ K hK ⟨⟨_, _, _, _, _, _, _, h1, _, _, _, h2, _, _, _, _, _, _, h3, h4, _⟩, _⟩
  replace hK : K (.l (.v (.bool (drvV ⟨⟨⟨fb, fq, fst⟩, pe, pc, ⟨rr, rt, rl, ro, ra⟩, ⟨sr, sl, ss, sf⟩, ⟨mc, mh, mcc, mhc⟩⟩, qi, qo, cw, cl⟩)))) := hK
  replace h3 : qi.length ≤ 1099511627776 := h3
  replace h4 : qo.length ≤ 1099511627776 := h4
  repeat' ((conv => whnf); (first | (refine Side.mk ?_ ?_; focus (first | omega | with_reducible assumption | kernel_rfl | exact rfl | (with_reducible first | omega | exact rngI (by omega) | (and_intros <;> first | trivial | omega | exact rngI (by omega))) | (dsimp only [EL.len]; with_reducible first | omega | exact rngI (by omega) | (and_intros <;> first | trivial | omega | exact rngI (by omega))) | with_reducible exact rngB (by omega) | with_reducible exact rngI ⟨by decide, by decide⟩ | exact ⟨rfl, trivial⟩ | exact ⟨rfl, rfl, trivial⟩ | exact ⟨⟨rfl, rfl, rfl, rfl⟩, trivial⟩ | (show (_ : Int) ≤ _ ∧ (_ : Int) ≤ _; omega) | (show (_ : Int) ≤ _; omega) | (simp only [EL.len, EL.sz, EL.take, EL.drop, maxL, la, ln, lc, ld, lt, ls, lna]; with_reducible first | omega | exact rngI (by omega) | (and_intros <;> first | trivial | omega | exact rngI (by omega))) | (simp only [EL.len, EL.sz, EL.take, EL.drop, maxL, la, ln, lc, ld, lt, ls, lna] at *; with_reducible first | omega | exact rngI (by omega) | (and_intros <;> first | trivial | omega | exact rngI (by omega))))) | (refine End.mk ?_; exact hF) | refine End.mk ?_ | refine brT ?_ | refine brF ?_ | (refine brT' ?_ ?_; focus with_reducible assumption) | (refine brF' ?_ ?_; focus with_reducible assumption) | (refine Br.mk ?_ ?_ <;> (intro hb; have h := hb; (try simp only [decide_eq_true_eq, decide_eq_false_iff_not, Bool.not_eq_true', Bool.not_eq_false', Bool.not_eq_eq_eq_not, Bool.not_true, Bool.not_false, ge_iff_le, gt_iff_lt, Bool.and_eq_true, Bool.and_eq_false_iff, Bool.or_eq_true, Bool.or_eq_false_iff, beq_self_eq_true, not_true_eq_false, and_self, Bool.true_eq_false, Bool.false_eq_true, not_false_eq_true] at h); (try dsimp only [EL.len] at h); (try (exfalso; first | omega | exact bnF h (by with_reducible assumption) | exact bnT h (by with_reducible assumption))))) | (refine fun (y : Int) (h0 : 0 ≤ y) h1 => ?_)))
  all_goals
    (refine Exists.intro _ (And.intro ?_ hK); repeat' (first | (refine Side.mk ?_ ?_; focus (first | with_reducible exact rfl | exact Eq.refl true | exact Eq.refl false)) | (refine Side.mk ?_ ?_) | exact True.intro))
    first
    | (simp_all [drvV, ringV, cntV]; done)
    | (simp_all [drvV, ringV, cntV]; intros; omega)
def c_s_DriverValid : CS := csOf [.inr [.int, .int, .int, .int, .int, .int, .int, .gots, .bool, .int, .int, .ints, .int, .int, .bool, .bool, .bool, .bool, .ints, .ints, .int, .int]] (fun ⟨⟨fb, fq, fst, pe, pc, rr, rt, rl, ro, ra, sr, sl, ss, sf, mc, mh, mcc, mhc, qi, qo, cw, cl, _⟩, _⟩ K => K (.l (.v (.bool (drvV ⟨⟨⟨fb, fq, fst⟩, pe, pc, ⟨rr, rt, rl, ro, ra⟩, ⟨sr, sl, ss, sf⟩, ⟨mc, mh, mcc, mhc⟩⟩, qi, qo, cw, cl⟩)))))
theorem c_s_DriverValid_ok : CSok Try.prog 22 c_s_DriverValid := cs_ok (by kernel_rfl) con_s_DriverValid

end Go.Proofs.Ytkhggobpanfkfaa
