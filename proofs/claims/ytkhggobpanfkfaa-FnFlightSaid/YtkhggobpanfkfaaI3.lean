/-
  IrqOf of the reference, and the interrupt of a port.
-/
import Derived.Test.YtkhggobpanfkfaaI2
import Derived.Test.YtkhggobpanfkfaaP4
import Derived.Test.YtkhggobpanfkfaaB1
namespace Go.Proofs.Ytkhggobpanfkfaa
open Go.RowKit
open Ab
set_option linter.unusedSimpArgs false
set_option linter.unusedVariables false

def env_s_IrqOf : Env := [(45, c_s_l6In), (25, c_s_l13Bit)]
theorem env_s_IrqOf_ok : EnvOk Try.prog env_s_IrqOf := envAll_ok ⟨c_s_l6In_ok, c_s_l13Bit_ok, trivial⟩
def tr_s_IrqOf : Nat → Tr := fun n => match n with
  | _ => .nil
set_option maxRecDepth 100000 in
set_option maxHeartbeats 2000000 in
theorem con_s_IrqOf : Con Try.prog 122 [.inl .int, .inl .int, .inl .bool, .inl .int] (fun ⟨s, r, m, e, _⟩ K => K (.l (.v (.int .i64 (irqN s r m e))))) := by
  refine con_ofN (TR := tr_s_IrqOf) tab_ok mixed_ok env_s_IrqOf_ok Try.func122 rfl ?_
  rintro ⟨(s : Int), (r : Int), (m : Bool), (e : Int), _⟩ K hK _
  replace hK : K (.l (.v (.int .i64 (irqN s r m e)))) := hK
  repeat' ((conv => whnf); (first | (refine Side.mk ?_ ?_; focus (first | omega | with_reducible assumption | kernel_rfl | exact rfl | (with_reducible first | omega | exact rngI (by omega) | (and_intros <;> first | trivial | omega | exact rngI (by omega))) | (dsimp only [EL.len]; with_reducible first | omega | exact rngI (by omega) | (and_intros <;> first | trivial | omega | exact rngI (by omega))) | with_reducible exact rngB (by omega) | with_reducible exact rngI ⟨by decide, by decide⟩ | exact ⟨rfl, trivial⟩ | exact ⟨rfl, rfl, trivial⟩ | exact ⟨⟨rfl, rfl, rfl, rfl⟩, trivial⟩ | (show (_ : Int) ≤ _ ∧ (_ : Int) ≤ _; omega) | (show (_ : Int) ≤ _; omega) | (simp only [EL.len, EL.sz, EL.take, EL.drop, maxL, la, ln, lc, ld, lt, ls, lna]; with_reducible first | omega | exact rngI (by omega) | (and_intros <;> first | trivial | omega | exact rngI (by omega))) | (simp only [EL.len, EL.sz, EL.take, EL.drop, maxL, la, ln, lc, ld, lt, ls, lna] at *; with_reducible first | omega | exact rngI (by omega) | (and_intros <;> first | trivial | omega | exact rngI (by omega))))) | (refine End.mk ?_; exact hF) | refine End.mk ?_ | refine brT ?_ | refine brF ?_ | (refine brT' ?_ ?_; focus with_reducible assumption) | (refine brF' ?_ ?_; focus with_reducible assumption) | (refine Br.mk ?_ ?_ <;> (intro hb; have h := hb; (try simp only [decide_eq_true_eq, decide_eq_false_iff_not, Bool.not_eq_true', Bool.not_eq_false', Bool.not_eq_eq_eq_not, Bool.not_true, Bool.not_false, ge_iff_le, gt_iff_lt, Bool.and_eq_true, Bool.and_eq_false_iff, Bool.or_eq_true, Bool.or_eq_false_iff, beq_self_eq_true, not_true_eq_false, and_self, Bool.true_eq_false, Bool.false_eq_true, not_false_eq_true] at h); (try dsimp only [EL.len] at h); (try (exfalso; first | omega | exact bnF h (by with_reducible assumption) | exact bnT h (by with_reducible assumption))))) | (refine fun (y : Int) (h0 : 0 ≤ y) h1 => ?_)))
  · (refine Exists.intro _ (And.intro ?_ hK); repeat' (first | (refine Side.mk ?_ ?_; focus (first | with_reducible exact rfl | exact Eq.refl true | exact Eq.refl false)) | (refine Side.mk ?_ ?_) | exact True.intro))
    clear hK
    simp_all [irqN]
    omega
  · (refine Exists.intro _ (And.intro ?_ hK); repeat' (first | (refine Side.mk ?_ ?_; focus (first | with_reducible exact rfl | exact Eq.refl true | exact Eq.refl false)) | (refine Side.mk ?_ ?_) | exact True.intro))
    clear hK
    simp_all [irqN]
    omega
  · (refine Exists.intro _ (And.intro ?_ hK); repeat' (first | (refine Side.mk ?_ ?_; focus (first | with_reducible exact rfl | exact Eq.refl true | exact Eq.refl false)) | (refine Side.mk ?_ ?_) | exact True.intro))
    clear hK
    simp_all [irqN]
    omega
  have a1 : (0 : Int) ≤ s ∧ s ≤ (127 : Int) := by assumption
  have a2 : (0 : Int) ≤ r ∧ r ≤ (2 : Int) := by assumption
  have a3 : (0 : Int) ≤ e ∧ e ≤ (15 : Int) := by assumption
  repeat' ((conv => whnf); (first | (refine Side.mk ?_ ?_; focus (first | omega | with_reducible assumption | kernel_rfl | exact rfl | (with_reducible first | omega | exact rngI (by omega) | (and_intros <;> first | trivial | omega | exact rngI (by omega))) | (dsimp only [EL.len]; with_reducible first | omega | exact rngI (by omega) | (and_intros <;> first | trivial | omega | exact rngI (by omega))) | with_reducible exact rngB (by omega) | with_reducible exact rngI ⟨by decide, by decide⟩ | exact ⟨rfl, trivial⟩ | exact ⟨rfl, rfl, trivial⟩ | exact ⟨⟨rfl, rfl, rfl, rfl⟩, trivial⟩ | (show (_ : Int) ≤ _ ∧ (_ : Int) ≤ _; omega) | (show (_ : Int) ≤ _; omega) | (simp only [EL.len, EL.sz, EL.take, EL.drop, maxL, la, ln, lc, ld, lt, ls, lna]; with_reducible first | omega | exact rngI (by omega) | (and_intros <;> first | trivial | omega | exact rngI (by omega))) | (simp only [EL.len, EL.sz, EL.take, EL.drop, maxL, la, ln, lc, ld, lt, ls, lna] at *; with_reducible first | omega | exact rngI (by omega) | (and_intros <;> first | trivial | omega | exact rngI (by omega))))) | (refine End.mk ?_; exact hF) | refine End.mk ?_ | refine brT ?_ | refine brF ?_ | (refine brT' ?_ ?_; focus with_reducible assumption) | (refine brF' ?_ ?_; focus with_reducible assumption) | (refine Br.mk ?_ ?_ <;> (intro hb; have h := hb; (try simp only [decide_eq_true_eq, decide_eq_false_iff_not, Bool.not_eq_true', Bool.not_eq_false', Bool.not_eq_eq_eq_not, Bool.not_true, Bool.not_false, ge_iff_le, gt_iff_lt, Bool.and_eq_true, Bool.and_eq_false_iff, Bool.or_eq_true, Bool.or_eq_false_iff, beq_self_eq_true, not_true_eq_false, and_self, Bool.true_eq_false, Bool.false_eq_true, not_false_eq_true] at h); (try dsimp only [EL.len] at h); (try (exfalso; first | omega | exact bnF h (by with_reducible assumption) | exact bnT h (by with_reducible assumption))))) | (refine fun (y : Int) (h0 : 0 ≤ y) h1 => ?_)))
  all_goals
    (refine Exists.intro _ (And.intro ?_ hK); repeat' (first | (refine Side.mk ?_ ?_; focus (first | with_reducible exact rfl | exact Eq.refl true | exact Eq.refl false)) | (refine Side.mk ?_ ?_) | exact True.intro))
    clear hK
    simp_all [irqN]
def c_s_IrqOf : CS := csOf [.inl .int, .inl .int, .inl .bool, .inl .int] (fun ⟨s, r, m, e, _⟩ K => K (.l (.v (.int .i64 (irqN s r m e)))))
theorem c_s_IrqOf_ok : CSok Try.prog 122 c_s_IrqOf := cs_ok (by kernel_rfl) con_s_IrqOf


def env_s_PortIrq : Env := [(46, c_s_PortValid), (123, c_s_l15Status), (124, c_s_RecvReady), (125, c_s_ModemChanged), (122, c_s_IrqOf)]
theorem env_s_PortIrq_ok : EnvOk Try.prog env_s_PortIrq := envAll_ok ⟨c_s_PortValid_ok, c_s_l15Status_ok, c_s_RecvReady_ok, c_s_ModemChanged_ok, c_s_IrqOf_ok, trivial⟩
def tr_s_PortIrq : Nat → Tr := fun n => match n with
  | 3 => .op 0 0 (.op 2 0 (.op 3 0 (.op 5 0 (.op 6 0 (.op 8 0 (.op 9 0 (.op 1 1 (.op 4 1 (.op 7 1 (.op 10 1 (.op 11 2 (.nil))))))))))))
  | _ => .nil
set_option maxRecDepth 100000 in
set_option maxHeartbeats 2000000 in
theorem con_s_PortIrq : Con Try.prog 112 [.inr [.int, .int, .int, .int, .int, .int, .int, .gots, .bool, .int, .int, .ints, .int, .int, .bool, .bool, .bool, .bool]] (fun ⟨⟨fb, fq, fst, pe, pc, rr, rt, rl, ro, ra, sr, sl, ss, sf, mc, mh, mcc, mhc, _⟩, _⟩ K => K (.l (.v (.int .i64 (pirqN ⟨⟨fb, fq, fst⟩, pe, pc, ⟨rr, rt, rl, ro, ra⟩, ⟨sr, sl, ss, sf⟩, ⟨mc, mh, mcc, mhc⟩⟩))))) := by
  refine con_ofN (TR := tr_s_PortIrq) tab_ok mixed_ok env_s_PortIrq_ok Try.func112 rfl ?_
  rintro ⟨⟨(fb : Int), (fq : Int), (fst : Int), (pe : Int), (pc : Int), (rr : Int), (rt : Int), (rl : List (Int × Int)), (ro : Bool), (ra : Int), (sr : Int), (sl : List Int), (ss : Int), (sf : Int), (mc : Bool), (mh : Bool), (mcc : Bool), (mhc : Bool), _⟩, _⟩ K hK _
  replace hK : K (.l (.v (.int .i64 (pirqN ⟨⟨fb, fq, fst⟩, pe, pc, ⟨rr, rt, rl, ro, ra⟩, ⟨sr, sl, ss, sf⟩, ⟨mc, mh, mcc, mhc⟩⟩)))) := hK
  by_cases hv : prtV ⟨⟨fb, fq, fst⟩, pe, pc, ⟨rr, rt, rl, ro, ra⟩, ⟨sr, sl, ss, sf⟩, ⟨mc, mh, mcc, mhc⟩⟩ = true
  · have hst : 0 ≤ rstatN ⟨rr, rt, rl, ro, ra⟩ + statN ⟨sr, sl, ss, sf⟩ ∧ rstatN ⟨rr, rt, rl, ro, ra⟩ + statN ⟨sr, sl, ss, sf⟩ ≤ 127 := pstat_bd (p := ⟨⟨fb, fq, fst⟩, pe, pc, ⟨rr, rt, rl, ro, ra⟩, ⟨sr, sl, ss, sf⟩, ⟨mc, mh, mcc, mhc⟩⟩) hv
    repeat' ((conv => whnf); (first | (refine Side.mk ?_ ?_; focus (first | omega | with_reducible assumption | kernel_rfl | exact rfl | (with_reducible first | omega | exact rngI (by omega) | (and_intros <;> first | trivial | omega | exact rngI (by omega))) | (dsimp only [EL.len]; with_reducible first | omega | exact rngI (by omega) | (and_intros <;> first | trivial | omega | exact rngI (by omega))) | with_reducible exact rngB (by omega) | with_reducible exact rngI ⟨by decide, by decide⟩ | exact ⟨rfl, trivial⟩ | exact ⟨rfl, rfl, trivial⟩ | exact ⟨⟨rfl, rfl, rfl, rfl⟩, trivial⟩ | (show (_ : Int) ≤ _ ∧ (_ : Int) ≤ _; omega) | (show (_ : Int) ≤ _; omega) | (simp only [EL.len, EL.sz, EL.take, EL.drop, maxL, la, ln, lc, ld, lt, ls, lna]; with_reducible first | omega | exact rngI (by omega) | (and_intros <;> first | trivial | omega | exact rngI (by omega))) | (simp only [EL.len, EL.sz, EL.take, EL.drop, maxL, la, ln, lc, ld, lt, ls, lna] at *; with_reducible first | omega | exact rngI (by omega) | (and_intros <;> first | trivial | omega | exact rngI (by omega))))) | (refine End.mk ?_; exact hF) | refine End.mk ?_ | refine brT ?_ | refine brF ?_ | (refine brT' ?_ ?_; focus with_reducible assumption) | (refine brF' ?_ ?_; focus with_reducible assumption) | (refine Br.mk ?_ ?_ <;> (intro hb; have h := hb; (try simp only [decide_eq_true_eq, decide_eq_false_iff_not, Bool.not_eq_true', Bool.not_eq_false', Bool.not_eq_eq_eq_not, Bool.not_true, Bool.not_false, ge_iff_le, gt_iff_lt, Bool.and_eq_true, Bool.and_eq_false_iff, Bool.or_eq_true, Bool.or_eq_false_iff, beq_self_eq_true, not_true_eq_false, and_self, Bool.true_eq_false, Bool.false_eq_true, not_false_eq_true] at h); (try dsimp only [EL.len] at h); (try (exfalso; first | omega | exact bnF h (by with_reducible assumption) | exact bnT h (by with_reducible assumption))))) | (refine fun (y : Int) (h0 : 0 ≤ y) h1 => ?_)))
    all_goals
      (refine Exists.intro _ (And.intro ?_ hK); repeat' (first | (refine Side.mk ?_ ?_; focus (first | with_reducible exact rfl | exact Eq.refl true | exact Eq.refl false)) | (refine Side.mk ?_ ?_) | exact True.intro))
      simp [pirqN, hv, pstatN]
  · replace hv : prtV ⟨⟨fb, fq, fst⟩, pe, pc, ⟨rr, rt, rl, ro, ra⟩, ⟨sr, sl, ss, sf⟩, ⟨mc, mh, mcc, mhc⟩⟩ = false := by simpa using hv
    repeat' ((conv => whnf); (first | (refine Side.mk ?_ ?_; focus (first | omega | with_reducible assumption | kernel_rfl | exact rfl | (with_reducible first | omega | exact rngI (by omega) | (and_intros <;> first | trivial | omega | exact rngI (by omega))) | (dsimp only [EL.len]; with_reducible first | omega | exact rngI (by omega) | (and_intros <;> first | trivial | omega | exact rngI (by omega))) | with_reducible exact rngB (by omega) | with_reducible exact rngI ⟨by decide, by decide⟩ | exact ⟨rfl, trivial⟩ | exact ⟨rfl, rfl, trivial⟩ | exact ⟨⟨rfl, rfl, rfl, rfl⟩, trivial⟩ | (show (_ : Int) ≤ _ ∧ (_ : Int) ≤ _; omega) | (show (_ : Int) ≤ _; omega) | (simp only [EL.len, EL.sz, EL.take, EL.drop, maxL, la, ln, lc, ld, lt, ls, lna]; with_reducible first | omega | exact rngI (by omega) | (and_intros <;> first | trivial | omega | exact rngI (by omega))) | (simp only [EL.len, EL.sz, EL.take, EL.drop, maxL, la, ln, lc, ld, lt, ls, lna] at *; with_reducible first | omega | exact rngI (by omega) | (and_intros <;> first | trivial | omega | exact rngI (by omega))))) | (refine End.mk ?_; exact hF) | refine End.mk ?_ | refine brT ?_ | refine brF ?_ | (refine brT' ?_ ?_; focus with_reducible assumption) | (refine brF' ?_ ?_; focus with_reducible assumption) | (refine Br.mk ?_ ?_ <;> (intro hb; have h := hb; (try simp only [decide_eq_true_eq, decide_eq_false_iff_not, Bool.not_eq_true', Bool.not_eq_false', Bool.not_eq_eq_eq_not, Bool.not_true, Bool.not_false, ge_iff_le, gt_iff_lt, Bool.and_eq_true, Bool.and_eq_false_iff, Bool.or_eq_true, Bool.or_eq_false_iff, beq_self_eq_true, not_true_eq_false, and_self, Bool.true_eq_false, Bool.false_eq_true, not_false_eq_true] at h); (try dsimp only [EL.len] at h); (try (exfalso; first | omega | exact bnF h (by with_reducible assumption) | exact bnT h (by with_reducible assumption))))) | (refine fun (y : Int) (h0 : 0 ≤ y) h1 => ?_)))
    all_goals
      (refine Exists.intro _ (And.intro ?_ hK); repeat' (first | (refine Side.mk ?_ ?_; focus (first | with_reducible exact rfl | exact Eq.refl true | exact Eq.refl false)) | (refine Side.mk ?_ ?_) | exact True.intro))
      simp [pirqN, hv]
def c_s_PortIrq : CS := csOf [.inr [.int, .int, .int, .int, .int, .int, .int, .gots, .bool, .int, .int, .ints, .int, .int, .bool, .bool, .bool, .bool]] (fun ⟨⟨fb, fq, fst, pe, pc, rr, rt, rl, ro, ra, sr, sl, ss, sf, mc, mh, mcc, mhc, _⟩, _⟩ K => K (.l (.v (.int .i64 (pirqN ⟨⟨fb, fq, fst⟩, pe, pc, ⟨rr, rt, rl, ro, ra⟩, ⟨sr, sl, ss, sf⟩, ⟨mc, mh, mcc, mhc⟩⟩)))))
theorem c_s_PortIrq_ok : CSok Try.prog 112 c_s_PortIrq := cs_ok (by kernel_rfl) con_s_PortIrq

end Go.Proofs.Ytkhggobpanfkfaa
