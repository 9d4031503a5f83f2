/-
  What the exact laws do with ports: copies, comparisons, marks.
-/
import Derived.Test.YtkhggobpanfkfaaDoorExH
import Derived.Test.YtkhggobpanfkfaaDoorExI
import Derived.Test.YtkhggobpanfkfaaDoorM4
namespace Go.Proofs.YtkhggobpanfkfaaDoor
open Go.RowKit
open Ab
set_option linter.unusedSimpArgs false
set_option linter.unusedVariables false

def env_l_toFormat : Env := []
theorem env_l_toFormat_ok : EnvOk Tryd.prog env_l_toFormat := envAll_ok trivial
def tr_l_toFormat : Nat → Tr := fun n => match n with
  | _ => .nil
set_option maxRecDepth 100000 in
set_option maxHeartbeats 2000000 in
theorem con_l_toFormat : Con Tryd.prog 21 [.inr [.int, .int, .int]] (fun ⟨⟨fb, fq, fst, _⟩, _⟩ K => K (.a (Fmt.d ⟨fb, fq, fst⟩))) := by
  refine con_ofN (TR := tr_l_toFormat) tab_ok mixed_ok env_l_toFormat_ok Tryd.func21 rfl ?_
  rintro ⟨⟨(fb : Int), (fq : Int), (fst : Int), _⟩, _⟩ K hK _
  replace hK : K (.a (Fmt.d ⟨fb, fq, fst⟩)) := hK
  repeat' ((conv => whnf); (first | (refine Side.mk ?_ ?_; focus (first | omega | with_reducible assumption | kernel_rfl | exact rfl | (with_reducible first | omega | exact rngI (by omega) | (and_intros <;> first | trivial | omega | exact rngI (by omega))) | (dsimp only [EL.len]; with_reducible first | omega | exact rngI (by omega) | (and_intros <;> first | trivial | omega | exact rngI (by omega))) | with_reducible exact rngB (by omega) | with_reducible exact rngI ⟨by decide, by decide⟩ | exact ⟨rfl, trivial⟩ | exact ⟨rfl, rfl, trivial⟩ | exact ⟨⟨rfl, rfl, rfl, rfl⟩, trivial⟩ | (show (_ : Int) ≤ _ ∧ (_ : Int) ≤ _; omega) | (show (_ : Int) ≤ _; omega) | (simp only [EL.len, EL.sz, EL.take, EL.drop, maxL, la, ln, lc, ld, lt, ls, lna]; with_reducible first | omega | exact rngI (by omega) | (and_intros <;> first | trivial | omega | exact rngI (by omega))) | (simp only [EL.len, EL.sz, EL.take, EL.drop, maxL, la, ln, lc, ld, lt, ls, lna] at *; with_reducible first | omega | exact rngI (by omega) | (and_intros <;> first | trivial | omega | exact rngI (by omega))))) | (refine End.mk ?_; exact hF) | refine End.mk ?_ | refine brT ?_ | refine brF ?_ | (refine brT' ?_ ?_; focus with_reducible assumption) | (refine brF' ?_ ?_; focus with_reducible assumption) | (refine Br.mk ?_ ?_ <;> (intro hb; have h := hb; (try simp only [decide_eq_true_eq, decide_eq_false_iff_not, Bool.not_eq_true', Bool.not_eq_false', Bool.not_eq_eq_eq_not, Bool.not_true, Bool.not_false, ge_iff_le, gt_iff_lt, Bool.and_eq_true, Bool.and_eq_false_iff, Bool.or_eq_true, Bool.or_eq_false_iff, beq_self_eq_true, not_true_eq_false, and_self, Bool.true_eq_false, Bool.false_eq_true, not_false_eq_true] at h); (try dsimp only [EL.len] at h); (try (exfalso; first | omega | exact bnF h (by with_reducible assumption) | exact bnT h (by with_reducible assumption))))) | (refine fun (y : Int) (h0 : 0 ≤ y) h1 => ?_)))
  (refine Exists.intro _ (And.intro ?_ hK); repeat' (first | (refine Side.mk ?_ ?_; focus (first | with_reducible exact rfl | exact Eq.refl true | exact Eq.refl false)) | (refine Side.mk ?_ ?_) | exact True.intro)); all_goals (first | exact rfl | (simp; done))
def c_l_toFormat : CS := csOf [.inr [.int, .int, .int]] (fun ⟨⟨fb, fq, fst, _⟩, _⟩ K => K (.a (Fmt.d ⟨fb, fq, fst⟩)))
theorem c_l_toFormat_ok : CSok Tryd.prog 21 c_l_toFormat := cs_ok (by kernel_rfl) con_l_toFormat

def env_l_toModem : Env := []
theorem env_l_toModem_ok : EnvOk Tryd.prog env_l_toModem := envAll_ok trivial
def tr_l_toModem : Nat → Tr := fun n => match n with
  | _ => .nil
set_option maxRecDepth 100000 in
set_option maxHeartbeats 2000000 in
theorem con_l_toModem : Con Tryd.prog 24 [.inr [.bool, .bool, .bool, .bool]] (fun ⟨⟨mc, mh, mcc, mhc, _⟩, _⟩ K => K (.a (Mdm.d ⟨mc, mh, mcc, mhc⟩))) := by
  refine con_ofN (TR := tr_l_toModem) tab_ok mixed_ok env_l_toModem_ok Tryd.func24 rfl ?_
  rintro ⟨⟨(mc : Bool), (mh : Bool), (mcc : Bool), (mhc : Bool), _⟩, _⟩ K hK _
  replace hK : K (.a (Mdm.d ⟨mc, mh, mcc, mhc⟩)) := hK
  repeat' ((conv => whnf); (first | (refine Side.mk ?_ ?_; focus (first | omega | with_reducible assumption | kernel_rfl | exact rfl | (with_reducible first | omega | exact rngI (by omega) | (and_intros <;> first | trivial | omega | exact rngI (by omega))) | (dsimp only [EL.len]; with_reducible first | omega | exact rngI (by omega) | (and_intros <;> first | trivial | omega | exact rngI (by omega))) | with_reducible exact rngB (by omega) | with_reducible exact rngI ⟨by decide, by decide⟩ | exact ⟨rfl, trivial⟩ | exact ⟨rfl, rfl, trivial⟩ | exact ⟨⟨rfl, rfl, rfl, rfl⟩, trivial⟩ | (show (_ : Int) ≤ _ ∧ (_ : Int) ≤ _; omega) | (show (_ : Int) ≤ _; omega) | (simp only [EL.len, EL.sz, EL.take, EL.drop, maxL, la, ln, lc, ld, lt, ls, lna]; with_reducible first | omega | exact rngI (by omega) | (and_intros <;> first | trivial | omega | exact rngI (by omega))) | (simp only [EL.len, EL.sz, EL.take, EL.drop, maxL, la, ln, lc, ld, lt, ls, lna] at *; with_reducible first | omega | exact rngI (by omega) | (and_intros <;> first | trivial | omega | exact rngI (by omega))))) | (refine End.mk ?_; exact hF) | refine End.mk ?_ | refine brT ?_ | refine brF ?_ | (refine brT' ?_ ?_; focus with_reducible assumption) | (refine brF' ?_ ?_; focus with_reducible assumption) | (refine Br.mk ?_ ?_ <;> (intro hb; have h := hb; (try simp only [decide_eq_true_eq, decide_eq_false_iff_not, Bool.not_eq_true', Bool.not_eq_false', Bool.not_eq_eq_eq_not, Bool.not_true, Bool.not_false, ge_iff_le, gt_iff_lt, Bool.and_eq_true, Bool.and_eq_false_iff, Bool.or_eq_true, Bool.or_eq_false_iff, beq_self_eq_true, not_true_eq_false, and_self, Bool.true_eq_false, Bool.false_eq_true, not_false_eq_true] at h); (try dsimp only [EL.len] at h); (try (exfalso; first | omega | exact bnF h (by with_reducible assumption) | exact bnT h (by with_reducible assumption))))) | (refine fun (y : Int) (h0 : 0 ≤ y) h1 => ?_)))
  (refine Exists.intro _ (And.intro ?_ hK); repeat' (first | (refine Side.mk ?_ ?_; focus (first | with_reducible exact rfl | exact Eq.refl true | exact Eq.refl false)) | (refine Side.mk ?_ ?_) | exact True.intro)); all_goals (first | exact rfl | (simp; done))
def c_l_toModem : CS := csOf [.inr [.bool, .bool, .bool, .bool]] (fun ⟨⟨mc, mh, mcc, mhc, _⟩, _⟩ K => K (.a (Mdm.d ⟨mc, mh, mcc, mhc⟩)))
theorem c_l_toModem_ok : CSok Tryd.prog 24 c_l_toModem := cs_ok (by kernel_rfl) con_l_toModem

def env_l_toPort : Env := [(21, c_l_toFormat), (22, c_l_toReceiver), (23, c_l_toSender), (24, c_l_toModem)]
theorem env_l_toPort_ok : EnvOk Tryd.prog env_l_toPort := envAll_ok ⟨c_l_toFormat_ok, c_l_toReceiver_ok, c_l_toSender_ok, c_l_toModem_ok, trivial⟩
def tr_l_toPort : Nat → Tr := fun n => match n with
  | _ => .nil
set_option maxRecDepth 100000 in
set_option maxHeartbeats 2000000 in
theorem con_l_toPort : Con Tryd.prog 7 [.inr [.int, .int, .int, .int, .int, .int, .int, .gots, .bool, .int, .int, .ints, .int, .int, .bool, .bool, .bool, .bool]] (fun ⟨⟨fb, fq, fst, pe, pc, rr, rt, rl, ro, ra, sr, sl, ss, sf, mc, mh, mcc, mhc, _⟩, _⟩ K => K (.a (Prt.d ⟨⟨fb, fq, fst⟩, pe, pc, ⟨rr, rt, rl, ro, ra⟩, ⟨sr, sl, ss, sf⟩, ⟨mc, mh, mcc, mhc⟩⟩))) := by
  refine con_ofN (TR := tr_l_toPort) tab_ok mixed_ok env_l_toPort_ok Tryd.func7 rfl ?_
  rintro ⟨⟨(fb : Int), (fq : Int), (fst : Int), (pe : Int), (pc : Int), (rr : Int), (rt : Int), (rl : List (Int × Int)), (ro : Bool), (ra : Int), (sr : Int), (sl : List Int), (ss : Int), (sf : Int), (mc : Bool), (mh : Bool), (mcc : Bool), (mhc : Bool), _⟩, _⟩ K hK _
  replace hK : K (.a (Prt.d ⟨⟨fb, fq, fst⟩, pe, pc, ⟨rr, rt, rl, ro, ra⟩, ⟨sr, sl, ss, sf⟩, ⟨mc, mh, mcc, mhc⟩⟩)) := hK
  repeat' ((conv => whnf); (first | (refine Side.mk ?_ ?_; focus (first | omega | with_reducible assumption | kernel_rfl | exact rfl | (with_reducible first | omega | exact rngI (by omega) | (and_intros <;> first | trivial | omega | exact rngI (by omega))) | (dsimp only [EL.len]; with_reducible first | omega | exact rngI (by omega) | (and_intros <;> first | trivial | omega | exact rngI (by omega))) | with_reducible exact rngB (by omega) | with_reducible exact rngI ⟨by decide, by decide⟩ | exact ⟨rfl, trivial⟩ | exact ⟨rfl, rfl, trivial⟩ | exact ⟨⟨rfl, rfl, rfl, rfl⟩, trivial⟩ | (show (_ : Int) ≤ _ ∧ (_ : Int) ≤ _; omega) | (show (_ : Int) ≤ _; omega) | (simp only [EL.len, EL.sz, EL.take, EL.drop, maxL, la, ln, lc, ld, lt, ls, lna]; with_reducible first | omega | exact rngI (by omega) | (and_intros <;> first | trivial | omega | exact rngI (by omega))) | (simp only [EL.len, EL.sz, EL.take, EL.drop, maxL, la, ln, lc, ld, lt, ls, lna] at *; with_reducible first | omega | exact rngI (by omega) | (and_intros <;> first | trivial | omega | exact rngI (by omega))))) | (refine End.mk ?_; exact hF) | refine End.mk ?_ | refine brT ?_ | refine brF ?_ | (refine brT' ?_ ?_; focus with_reducible assumption) | (refine brF' ?_ ?_; focus with_reducible assumption) | (refine Br.mk ?_ ?_ <;> (intro hb; have h := hb; (try simp only [decide_eq_true_eq, decide_eq_false_iff_not, Bool.not_eq_true', Bool.not_eq_false', Bool.not_eq_eq_eq_not, Bool.not_true, Bool.not_false, ge_iff_le, gt_iff_lt, Bool.and_eq_true, Bool.and_eq_false_iff, Bool.or_eq_true, Bool.or_eq_false_iff, beq_self_eq_true, not_true_eq_false, and_self, Bool.true_eq_false, Bool.false_eq_true, not_false_eq_true] at h); (try dsimp only [EL.len] at h); (try (exfalso; first | omega | exact bnF h (by with_reducible assumption) | exact bnT h (by with_reducible assumption))))) | (refine fun (y : Int) (h0 : 0 ≤ y) h1 => ?_)))
  (refine Exists.intro _ (And.intro ?_ hK); repeat' (first | (refine Side.mk ?_ ?_; focus (first | with_reducible exact rfl | exact Eq.refl true | exact Eq.refl false)) | (refine Side.mk ?_ ?_) | exact True.intro)); all_goals (first | exact rfl | (simp; done))
def c_l_toPort : CS := csOf [.inr [.int, .int, .int, .int, .int, .int, .int, .gots, .bool, .int, .int, .ints, .int, .int, .bool, .bool, .bool, .bool]] (fun ⟨⟨fb, fq, fst, pe, pc, rr, rt, rl, ro, ra, sr, sl, ss, sf, mc, mh, mcc, mhc, _⟩, _⟩ K => K (.a (Prt.d ⟨⟨fb, fq, fst⟩, pe, pc, ⟨rr, rt, rl, ro, ra⟩, ⟨sr, sl, ss, sf⟩, ⟨mc, mh, mcc, mhc⟩⟩)))
theorem c_l_toPort_ok : CSok Tryd.prog 7 c_l_toPort := cs_ok (by kernel_rfl) con_l_toPort

def env_l_eqFormat : Env := []
theorem env_l_eqFormat_ok : EnvOk Tryd.prog env_l_eqFormat := envAll_ok trivial
def tr_l_eqFormat : Nat → Tr := fun n => match n with
  | _ => .nil
set_option maxRecDepth 100000 in
set_option maxHeartbeats 2000000 in
theorem con_l_eqFormat : Con Tryd.prog 29 [.inr [.int, .int, .int], .inr [.int, .int, .int]] (fun ⟨⟨fb, fq, fst, _⟩, ⟨fb2, fq2, fst2, _⟩, _⟩ K => K (.l (.v (.bool (decide (fb = fb2 ∧ fq = fq2 ∧ fst = fst2)))))) := by
  refine con_ofN (TR := tr_l_eqFormat) tab_ok mixed_ok env_l_eqFormat_ok Tryd.func29 rfl ?_
  rintro ⟨⟨(fb : Int), (fq : Int), (fst : Int), _⟩, ⟨(fb2 : Int), (fq2 : Int), (fst2 : Int), _⟩, _⟩ K hK _
  replace hK : K (.l (.v (.bool (decide (fb = fb2 ∧ fq = fq2 ∧ fst = fst2))))) := hK
  repeat' ((conv => whnf); (first | (refine Side.mk ?_ ?_; focus (first | omega | with_reducible assumption | kernel_rfl | exact rfl | (with_reducible first | omega | exact rngI (by omega) | (and_intros <;> first | trivial | omega | exact rngI (by omega))) | (dsimp only [EL.len]; with_reducible first | omega | exact rngI (by omega) | (and_intros <;> first | trivial | omega | exact rngI (by omega))) | with_reducible exact rngB (by omega) | with_reducible exact rngI ⟨by decide, by decide⟩ | exact ⟨rfl, trivial⟩ | exact ⟨rfl, rfl, trivial⟩ | exact ⟨⟨rfl, rfl, rfl, rfl⟩, trivial⟩ | (show (_ : Int) ≤ _ ∧ (_ : Int) ≤ _; omega) | (show (_ : Int) ≤ _; omega) | (simp only [EL.len, EL.sz, EL.take, EL.drop, maxL, la, ln, lc, ld, lt, ls, lna]; with_reducible first | omega | exact rngI (by omega) | (and_intros <;> first | trivial | omega | exact rngI (by omega))) | (simp only [EL.len, EL.sz, EL.take, EL.drop, maxL, la, ln, lc, ld, lt, ls, lna] at *; with_reducible first | omega | exact rngI (by omega) | (and_intros <;> first | trivial | omega | exact rngI (by omega))))) | (refine End.mk ?_; exact hF) | refine End.mk ?_ | refine brT ?_ | refine brF ?_ | (refine brT' ?_ ?_; focus with_reducible assumption) | (refine brF' ?_ ?_; focus with_reducible assumption) | (refine Br.mk ?_ ?_ <;> (intro hb; have h := hb; (try simp only [decide_eq_true_eq, decide_eq_false_iff_not, Bool.not_eq_true', Bool.not_eq_false', Bool.not_eq_eq_eq_not, Bool.not_true, Bool.not_false, ge_iff_le, gt_iff_lt, Bool.and_eq_true, Bool.and_eq_false_iff, Bool.or_eq_true, Bool.or_eq_false_iff, beq_self_eq_true, not_true_eq_false, and_self, Bool.true_eq_false, Bool.false_eq_true, not_false_eq_true] at h); (try dsimp only [EL.len] at h); (try (exfalso; first | omega | exact bnF h (by with_reducible assumption) | exact bnT h (by with_reducible assumption))))) | (refine fun (y : Int) (h0 : 0 ≤ y) h1 => ?_)))
  all_goals
    (refine Exists.intro _ (And.intro ?_ hK); repeat' (first | (refine Side.mk ?_ ?_; focus (first | with_reducible exact rfl | exact Eq.refl true | exact Eq.refl false)) | (refine Side.mk ?_ ?_) | exact True.intro))
    simp_all
def c_l_eqFormat : CS := csOf [.inr [.int, .int, .int], .inr [.int, .int, .int]] (fun ⟨⟨fb, fq, fst, _⟩, ⟨fb2, fq2, fst2, _⟩, _⟩ K => K (.l (.v (.bool (decide (fb = fb2 ∧ fq = fq2 ∧ fst = fst2))))))
theorem c_l_eqFormat_ok : CSok Tryd.prog 29 c_l_eqFormat := cs_ok (by kernel_rfl) con_l_eqFormat

def env_l_eqModem : Env := []
theorem env_l_eqModem_ok : EnvOk Tryd.prog env_l_eqModem := envAll_ok trivial
def tr_l_eqModem : Nat → Tr := fun n => match n with
  | _ => .nil
set_option maxRecDepth 100000 in
set_option maxHeartbeats 2000000 in
theorem con_l_eqModem : Con Tryd.prog 32 [.inr [.bool, .bool, .bool, .bool], .inr [.bool, .bool, .bool, .bool]] (fun ⟨⟨mc, mh, mcc, mhc, _⟩, ⟨mc2, mh2, mcc2, mhc2, _⟩, _⟩ K => K (.l (.v (.bool (decide (mc = mc2 ∧ mh = mh2 ∧ mcc = mcc2 ∧ mhc = mhc2)))))) := by
  refine con_ofN (TR := tr_l_eqModem) tab_ok mixed_ok env_l_eqModem_ok Tryd.func32 rfl ?_
  rintro ⟨⟨(mc : Bool), (mh : Bool), (mcc : Bool), (mhc : Bool), _⟩, ⟨(mc2 : Bool), (mh2 : Bool), (mcc2 : Bool), (mhc2 : Bool), _⟩, _⟩ K hK _
  replace hK : K (.l (.v (.bool (decide (mc = mc2 ∧ mh = mh2 ∧ mcc = mcc2 ∧ mhc = mhc2))))) := hK
  repeat' ((conv => whnf); (first | (refine Side.mk ?_ ?_; focus (first | omega | with_reducible assumption | kernel_rfl | exact rfl | (with_reducible first | omega | exact rngI (by omega) | (and_intros <;> first | trivial | omega | exact rngI (by omega))) | (dsimp only [EL.len]; with_reducible first | omega | exact rngI (by omega) | (and_intros <;> first | trivial | omega | exact rngI (by omega))) | with_reducible exact rngB (by omega) | with_reducible exact rngI ⟨by decide, by decide⟩ | exact ⟨rfl, trivial⟩ | exact ⟨rfl, rfl, trivial⟩ | exact ⟨⟨rfl, rfl, rfl, rfl⟩, trivial⟩ | (show (_ : Int) ≤ _ ∧ (_ : Int) ≤ _; omega) | (show (_ : Int) ≤ _; omega) | (simp only [EL.len, EL.sz, EL.take, EL.drop, maxL, la, ln, lc, ld, lt, ls, lna]; with_reducible first | omega | exact rngI (by omega) | (and_intros <;> first | trivial | omega | exact rngI (by omega))) | (simp only [EL.len, EL.sz, EL.take, EL.drop, maxL, la, ln, lc, ld, lt, ls, lna] at *; with_reducible first | omega | exact rngI (by omega) | (and_intros <;> first | trivial | omega | exact rngI (by omega))))) | (refine End.mk ?_; exact hF) | refine End.mk ?_ | refine brT ?_ | refine brF ?_ | (refine brT' ?_ ?_; focus with_reducible assumption) | (refine brF' ?_ ?_; focus with_reducible assumption) | (refine Br.mk ?_ ?_ <;> (intro hb; have h := hb; (try simp only [decide_eq_true_eq, decide_eq_false_iff_not, Bool.not_eq_true', Bool.not_eq_false', Bool.not_eq_eq_eq_not, Bool.not_true, Bool.not_false, ge_iff_le, gt_iff_lt, Bool.and_eq_true, Bool.and_eq_false_iff, Bool.or_eq_true, Bool.or_eq_false_iff, beq_self_eq_true, not_true_eq_false, and_self, Bool.true_eq_false, Bool.false_eq_true, not_false_eq_true] at h); (try dsimp only [EL.len] at h); (try (exfalso; first | omega | exact bnF h (by with_reducible assumption) | exact bnT h (by with_reducible assumption))))) | (refine fun (y : Int) (h0 : 0 ≤ y) h1 => ?_)))
  all_goals
    (refine Exists.intro _ (And.intro ?_ hK); repeat' (first | (refine Side.mk ?_ ?_; focus (first | with_reducible exact rfl | exact Eq.refl true | exact Eq.refl false)) | (refine Side.mk ?_ ?_) | exact True.intro))
    simp_all
def c_l_eqModem : CS := csOf [.inr [.bool, .bool, .bool, .bool], .inr [.bool, .bool, .bool, .bool]] (fun ⟨⟨mc, mh, mcc, mhc, _⟩, ⟨mc2, mh2, mcc2, mhc2, _⟩, _⟩ K => K (.l (.v (.bool (decide (mc = mc2 ∧ mh = mh2 ∧ mcc = mcc2 ∧ mhc = mhc2))))))
theorem c_l_eqModem_ok : CSok Tryd.prog 32 c_l_eqModem := cs_ok (by kernel_rfl) con_l_eqModem

def env_l_eqPort : Env := [(29, c_l_eqFormat), (30, c_l_eqReceiver), (31, c_l_eqSender), (32, c_l_eqModem)]
theorem env_l_eqPort_ok : EnvOk Tryd.prog env_l_eqPort := envAll_ok ⟨c_l_eqFormat_ok, c_l_eqReceiver_ok, c_l_eqSender_ok, c_l_eqModem_ok, trivial⟩
def tr_l_eqPort : Nat → Tr := fun n => match n with
  | _ => .nil
set_option maxRecDepth 100000 in
set_option maxHeartbeats 2000000 in
theorem con_l_eqPort : Con Tryd.prog 9 [.inr [.int, .int, .int, .int, .int, .int, .int, .gots, .bool, .int, .int, .ints, .int, .int, .bool, .bool, .bool, .bool], .inr [.int, .int, .int, .int, .int, .int, .int, .gots, .bool, .int, .int, .ints, .int, .int, .bool, .bool, .bool, .bool]] (fun ⟨⟨fb, fq, fst, pe, pc, rr, rt, rl, ro, ra, sr, sl, ss, sf, mc, mh, mcc, mhc, _⟩, ⟨fb2, fq2, fst2, pe2, pc2, rr2, rt2, rl2, ro2, ra2, sr2, sl2, ss2, sf2, mc2, mh2, mcc2, mhc2, _⟩, _⟩ K => K (.l (.v (.bool (sameP ⟨⟨fb, fq, fst⟩, pe, pc, ⟨rr, rt, rl, ro, ra⟩, ⟨sr, sl, ss, sf⟩, ⟨mc, mh, mcc, mhc⟩⟩ ⟨⟨fb2, fq2, fst2⟩, pe2, pc2, ⟨rr2, rt2, rl2, ro2, ra2⟩, ⟨sr2, sl2, ss2, sf2⟩, ⟨mc2, mh2, mcc2, mhc2⟩⟩))))) := by
  refine con_ofN (TR := tr_l_eqPort) tab_ok mixed_ok env_l_eqPort_ok Tryd.func9 rfl ?_
  rintro ⟨⟨(fb : Int), (fq : Int), (fst : Int), (pe : Int), (pc : Int), (rr : Int), (rt : Int), (rl : List (Int × Int)), (ro : Bool), (ra : Int), (sr : Int), (sl : List Int), (ss : Int), (sf : Int), (mc : Bool), (mh : Bool), (mcc : Bool), (mhc : Bool), _⟩, ⟨(fb2 : Int), (fq2 : Int), (fst2 : Int), (pe2 : Int), (pc2 : Int), (rr2 : Int), (rt2 : Int), (rl2 : List (Int × Int)), (ro2 : Bool), (ra2 : Int), (sr2 : Int), (sl2 : List Int), (ss2 : Int), (sf2 : Int), (mc2 : Bool), (mh2 : Bool), (mcc2 : Bool), (mhc2 : Bool), _⟩, _⟩ K hK _
  replace hK : K (.l (.v (.bool (sameP ⟨⟨fb, fq, fst⟩, pe, pc, ⟨rr, rt, rl, ro, ra⟩, ⟨sr, sl, ss, sf⟩, ⟨mc, mh, mcc, mhc⟩⟩ ⟨⟨fb2, fq2, fst2⟩, pe2, pc2, ⟨rr2, rt2, rl2, ro2, ra2⟩, ⟨sr2, sl2, ss2, sf2⟩, ⟨mc2, mh2, mcc2, mhc2⟩⟩)))) := hK
  repeat' ((conv => whnf); (first | (refine Side.mk ?_ ?_; focus (first | omega | with_reducible assumption | kernel_rfl | exact rfl | (with_reducible first | omega | exact rngI (by omega) | (and_intros <;> first | trivial | omega | exact rngI (by omega))) | (dsimp only [EL.len]; with_reducible first | omega | exact rngI (by omega) | (and_intros <;> first | trivial | omega | exact rngI (by omega))) | with_reducible exact rngB (by omega) | with_reducible exact rngI ⟨by decide, by decide⟩ | exact ⟨rfl, trivial⟩ | exact ⟨rfl, rfl, trivial⟩ | exact ⟨⟨rfl, rfl, rfl, rfl⟩, trivial⟩ | (show (_ : Int) ≤ _ ∧ (_ : Int) ≤ _; omega) | (show (_ : Int) ≤ _; omega) | (simp only [EL.len, EL.sz, EL.take, EL.drop, maxL, la, ln, lc, ld, lt, ls, lna]; with_reducible first | omega | exact rngI (by omega) | (and_intros <;> first | trivial | omega | exact rngI (by omega))) | (simp only [EL.len, EL.sz, EL.take, EL.drop, maxL, la, ln, lc, ld, lt, ls, lna] at *; with_reducible first | omega | exact rngI (by omega) | (and_intros <;> first | trivial | omega | exact rngI (by omega))))) | (refine End.mk ?_; exact hF) | refine End.mk ?_ | refine brT ?_ | refine brF ?_ | (refine brT' ?_ ?_; focus with_reducible assumption) | (refine brF' ?_ ?_; focus with_reducible assumption) | (refine Br.mk ?_ ?_ <;> (intro hb; have h := hb; (try simp only [decide_eq_true_eq, decide_eq_false_iff_not, Bool.not_eq_true', Bool.not_eq_false', Bool.not_eq_eq_eq_not, Bool.not_true, Bool.not_false, ge_iff_le, gt_iff_lt, Bool.and_eq_true, Bool.and_eq_false_iff, Bool.or_eq_true, Bool.or_eq_false_iff, beq_self_eq_true, not_true_eq_false, and_self, Bool.true_eq_false, Bool.false_eq_true, not_false_eq_true] at h); (try dsimp only [EL.len] at h); (try (exfalso; first | omega | exact bnF h (by with_reducible assumption) | exact bnT h (by with_reducible assumption))))) | (refine fun (y : Int) (h0 : 0 ≤ y) h1 => ?_)))
  all_goals
    (refine Exists.intro _ (And.intro ?_ hK); repeat' (first | (refine Side.mk ?_ ?_; focus (first | with_reducible exact rfl | exact Eq.refl true | exact Eq.refl false)) | (refine Side.mk ?_ ?_) | exact True.intro))
    simp_all [sameP]
def c_l_eqPort : CS := csOf [.inr [.int, .int, .int, .int, .int, .int, .int, .gots, .bool, .int, .int, .ints, .int, .int, .bool, .bool, .bool, .bool], .inr [.int, .int, .int, .int, .int, .int, .int, .gots, .bool, .int, .int, .ints, .int, .int, .bool, .bool, .bool, .bool]] (fun ⟨⟨fb, fq, fst, pe, pc, rr, rt, rl, ro, ra, sr, sl, ss, sf, mc, mh, mcc, mhc, _⟩, ⟨fb2, fq2, fst2, pe2, pc2, rr2, rt2, rl2, ro2, ra2, sr2, sl2, ss2, sf2, mc2, mh2, mcc2, mhc2, _⟩, _⟩ K => K (.l (.v (.bool (sameP ⟨⟨fb, fq, fst⟩, pe, pc, ⟨rr, rt, rl, ro, ra⟩, ⟨sr, sl, ss, sf⟩, ⟨mc, mh, mcc, mhc⟩⟩ ⟨⟨fb2, fq2, fst2⟩, pe2, pc2, ⟨rr2, rt2, rl2, ro2, ra2⟩, ⟨sr2, sl2, ss2, sf2⟩, ⟨mc2, mh2, mcc2, mhc2⟩⟩)))))
theorem c_l_eqPort_ok : CSok Tryd.prog 9 c_l_eqPort := cs_ok (by kernel_rfl) con_l_eqPort

def env_l_szPort : Env := [(15, c_l_szReceiver), (16, c_l_szSender)]
theorem env_l_szPort_ok : EnvOk Tryd.prog env_l_szPort := envAll_ok ⟨c_l_szReceiver_ok, c_l_szSender_ok, trivial⟩
def tr_l_szPort : Nat → Tr := fun n => match n with
  | _ => .nil
def c_l_szPort : CS := csN tab env_l_szPort tr_l_szPort Tryd.f5
theorem c_l_szPort_ok : CSok Tryd.prog 5 c_l_szPort := csN_ok tab_ok mixed_ok env_l_szPort_ok Tryd.func5 (by kernel_rfl)
def env_l_markPort : Env := [(33, c_l_markReceiver), (34, c_l_markSender)]
theorem env_l_markPort_ok : EnvOk Tryd.prog env_l_markPort := envAll_ok ⟨c_l_markReceiver_ok, c_l_markSender_ok, trivial⟩
def tr_l_markPort : Nat → Tr := fun n => match n with
  | _ => .nil
def c_l_markPort : CS := csN tab env_l_markPort tr_l_markPort Tryd.f10
theorem c_l_markPort_ok : CSok Tryd.prog 10 c_l_markPort := csN_ok tab_ok mixed_ok env_l_markPort_ok Tryd.func10 (by kernel_rfl)
def env_l_heldPort : Env := [(35, c_l_heldReceiver), (36, c_l_heldSender)]
theorem env_l_heldPort_ok : EnvOk Tryd.prog env_l_heldPort := envAll_ok ⟨c_l_heldReceiver_ok, c_l_heldSender_ok, trivial⟩
def tr_l_heldPort : Nat → Tr := fun n => match n with
  | _ => .nil
def c_l_heldPort : CS := csN tab env_l_heldPort tr_l_heldPort Tryd.f11
theorem c_l_heldPort_ok : CSok Tryd.prog 11 c_l_heldPort := csN_ok tab_ok mixed_ok env_l_heldPort_ok Tryd.func11 (by kernel_rfl)

end Go.Proofs.YtkhggobpanfkfaaDoor
