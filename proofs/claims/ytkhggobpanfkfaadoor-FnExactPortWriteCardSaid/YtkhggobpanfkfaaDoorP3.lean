/-
  Receivers' ticks and status, ports: what is valid, copies; by the abstract walk.
-/
import Derived.Test.YtkhggobpanfkfaaDoorP1
import Derived.Test.YtkhggobpanfkfaaDoorP2
import Derived.Test.YtkhggobpanfkfaaDoorR1
import Derived.Test.YtkhggobpanfkfaaDoorS2
import Derived.Test.YtkhggobpanfkfaaDoorS3
namespace Go.Proofs.YtkhggobpanfkfaaDoor
open Go.RowKit
open Ab
set_option linter.unusedSimpArgs false
set_option linter.unusedVariables false



def env_i_RecvReady : Env := [(77, c_i_RecvValid)]
theorem env_i_RecvReady_ok : EnvOk Tryd.prog env_i_RecvReady := envAll_ok ⟨c_i_RecvValid_ok, trivial⟩
def tr_i_RecvReady : Nat → Tr := fun n => match n with
  | _ => .nil
set_option maxRecDepth 100000 in
set_option maxHeartbeats 2000000 in
theorem con_i_RecvReady : Con Tryd.prog 106 [.inr [.int, .int, .gots, .bool, .int]] (fun ⟨⟨rr, rt, rl, ro, ra, _⟩, _⟩ K => K (.l (.v (.int .i64 (readyN ⟨rr, rt, rl, ro, ra⟩))))) := by
  refine con_ofN (TR := tr_i_RecvReady) tab_ok mixed_ok env_i_RecvReady_ok Tryd.func106 rfl ?_
  rintro ⟨⟨(rr : Int), (rt : Int), (rl : List (Int × Int)), (ro : Bool), (ra : Int), _⟩, _⟩ K hK ⟨⟨_, _, hl, _⟩, _⟩
  replace hK : K (.l (.v (.int .i64 (readyN ⟨rr, rt, rl, ro, ra⟩)))) := hK
  replace hl : rl.length ≤ 1099511627776 := hl
  repeat' ((conv => whnf); (first | (refine Side.mk ?_ ?_; focus (first | omega | with_reducible assumption | kernel_rfl | exact rfl | (with_reducible first | omega | exact rngI (by omega) | (and_intros <;> first | trivial | omega | exact rngI (by omega))) | (dsimp only [EL.len]; with_reducible first | omega | exact rngI (by omega) | (and_intros <;> first | trivial | omega | exact rngI (by omega))) | with_reducible exact rngB (by omega) | with_reducible exact rngI ⟨by decide, by decide⟩ | exact ⟨rfl, trivial⟩ | exact ⟨rfl, rfl, trivial⟩ | exact ⟨⟨rfl, rfl, rfl, rfl⟩, trivial⟩ | (show (_ : Int) ≤ _ ∧ (_ : Int) ≤ _; omega) | (show (_ : Int) ≤ _; omega) | (simp only [EL.len, EL.sz, EL.take, EL.drop, maxL, la, ln, lc, ld, lt, ls, lna]; with_reducible first | omega | exact rngI (by omega) | (and_intros <;> first | trivial | omega | exact rngI (by omega))) | (simp only [EL.len, EL.sz, EL.take, EL.drop, maxL, la, ln, lc, ld, lt, ls, lna] at *; with_reducible first | omega | exact rngI (by omega) | (and_intros <;> first | trivial | omega | exact rngI (by omega))))) | (refine End.mk ?_; exact hF) | refine End.mk ?_ | refine brT ?_ | refine brF ?_ | (refine brT' ?_ ?_; focus with_reducible assumption) | (refine brF' ?_ ?_; focus with_reducible assumption) | (refine Br.mk ?_ ?_ <;> (intro hb; have h := hb; (try simp only [decide_eq_true_eq, decide_eq_false_iff_not, Bool.not_eq_true', Bool.not_eq_false', Bool.not_eq_eq_eq_not, Bool.not_true, Bool.not_false, ge_iff_le, gt_iff_lt, Bool.and_eq_true, Bool.and_eq_false_iff, Bool.or_eq_true, Bool.or_eq_false_iff, beq_self_eq_true, not_true_eq_false, and_self, Bool.true_eq_false, Bool.false_eq_true, not_false_eq_true] at h); (try dsimp only [EL.len] at h); (try (exfalso; first | omega | exact bnF h (by with_reducible assumption) | exact bnT h (by with_reducible assumption))))) | (refine fun (y : Int) (h0 : 0 ≤ y) h1 => ?_)))
  all_goals (refine Exists.intro _ (And.intro ?_ hK); repeat' (first | (refine Side.mk ?_ ?_; focus (first | with_reducible exact rfl | exact Eq.refl true | exact Eq.refl false)) | (refine Side.mk ?_ ?_) | exact True.intro))
  all_goals clear hK
  all_goals (simp_all [readyN, EL.len] <;> first | done | omega | (intros; omega))
def c_i_RecvReady : CS := csOf [.inr [.int, .int, .gots, .bool, .int]] (fun ⟨⟨rr, rt, rl, ro, ra, _⟩, _⟩ K => K (.l (.v (.int .i64 (readyN ⟨rr, rt, rl, ro, ra⟩)))))
theorem c_i_RecvReady_ok : CSok Tryd.prog 106 c_i_RecvReady := cs_ok (by kernel_rfl) con_i_RecvReady


def env_i_RecvStatus : Env := [(77, c_i_RecvValid)]
theorem env_i_RecvStatus_ok : EnvOk Tryd.prog env_i_RecvStatus := envAll_ok ⟨c_i_RecvValid_ok, trivial⟩
def tr_i_RecvStatus : Nat → Tr := fun n => match n with
  | _ => .nil
set_option maxRecDepth 100000 in
set_option maxHeartbeats 2000000 in
theorem con_i_RecvStatus : Con Tryd.prog 84 [.inr [.int, .int, .gots, .bool, .int]] (fun ⟨⟨rr, rt, rl, ro, ra, _⟩, _⟩ K => K (.l (.v (.int .i64 (rstatN ⟨rr, rt, rl, ro, ra⟩))))) := by
  refine con_ofN (TR := tr_i_RecvStatus) tab_ok mixed_ok env_i_RecvStatus_ok Tryd.func84 rfl ?_
  rintro ⟨⟨(rr : Int), (rt : Int), (rl : List (Int × Int)), (ro : Bool), (ra : Int), _⟩, _⟩ K hK ⟨⟨_, _, hl, _⟩, _⟩
  replace hK : K (.l (.v (.int .i64 (rstatN ⟨rr, rt, rl, ro, ra⟩)))) := hK
  replace hl : rl.length ≤ 1099511627776 := hl
  refine Classical.byCases (p := rcvV ⟨rr, rt, rl, ro, ra⟩ = true) (fun hv => ?_) (fun hv => ?_)
  · have he : rstatN ⟨rr, rt, rl, ro, ra⟩ = (if ro then 2 else 0) + codeN rl := by simp [rstatN, hv]
    rw [he] at hK
    clear he
    match rl with
    | [] =>
      repeat' ((conv => whnf); (first | (refine Side.mk ?_ ?_; focus (first | omega | with_reducible assumption | kernel_rfl | exact rfl | (with_reducible first | omega | exact rngI (by omega) | (and_intros <;> first | trivial | omega | exact rngI (by omega))) | (dsimp only [EL.len]; with_reducible first | omega | exact rngI (by omega) | (and_intros <;> first | trivial | omega | exact rngI (by omega))) | with_reducible exact rngB (by omega) | with_reducible exact rngI ⟨by decide, by decide⟩ | exact ⟨rfl, trivial⟩ | exact ⟨rfl, rfl, trivial⟩ | exact ⟨⟨rfl, rfl, rfl, rfl⟩, trivial⟩ | (show (_ : Int) ≤ _ ∧ (_ : Int) ≤ _; omega) | (show (_ : Int) ≤ _; omega) | (simp only [EL.len, EL.sz, EL.take, EL.drop, maxL, la, ln, lc, ld, lt, ls, lna]; with_reducible first | omega | exact rngI (by omega) | (and_intros <;> first | trivial | omega | exact rngI (by omega))) | (simp only [EL.len, EL.sz, EL.take, EL.drop, maxL, la, ln, lc, ld, lt, ls, lna] at *; with_reducible first | omega | exact rngI (by omega) | (and_intros <;> first | trivial | omega | exact rngI (by omega))))) | (refine End.mk ?_; exact hF) | refine End.mk ?_ | refine brT ?_ | refine brF ?_ | (refine brT' ?_ ?_; focus with_reducible assumption) | (refine brF' ?_ ?_; focus with_reducible assumption) | (refine Br.mk ?_ ?_ <;> (intro hb; have h := hb; (try simp only [decide_eq_true_eq, decide_eq_false_iff_not, Bool.not_eq_true', Bool.not_eq_false', Bool.not_eq_eq_eq_not, Bool.not_true, Bool.not_false, ge_iff_le, gt_iff_lt, Bool.and_eq_true, Bool.and_eq_false_iff, Bool.or_eq_true, Bool.or_eq_false_iff, beq_self_eq_true, not_true_eq_false, and_self, Bool.true_eq_false, Bool.false_eq_true, not_false_eq_true] at h); (try dsimp only [EL.len] at h); (try (exfalso; first | omega | exact bnF h (by with_reducible assumption) | exact bnT h (by with_reducible assumption))))) | (refine fun (y : Int) (h0 : 0 ≤ y) h1 => ?_)))
      all_goals (refine Exists.intro _ (And.intro ?_ hK); repeat' (first | (refine Side.mk ?_ ?_; focus (first | with_reducible exact rfl | exact Eq.refl true | exact Eq.refl false)) | (refine Side.mk ?_ ?_) | exact True.intro))
      all_goals clear hK
      all_goals (simp_all [codeN] <;> omega)
    | g :: m =>
      repeat' ((conv => whnf); (first | (refine Side.mk ?_ ?_; focus (first | omega | with_reducible assumption | kernel_rfl | exact rfl | (with_reducible first | omega | exact rngI (by omega) | (and_intros <;> first | trivial | omega | exact rngI (by omega))) | (dsimp only [EL.len]; with_reducible first | omega | exact rngI (by omega) | (and_intros <;> first | trivial | omega | exact rngI (by omega))) | with_reducible exact rngB (by omega) | with_reducible exact rngI ⟨by decide, by decide⟩ | exact ⟨rfl, trivial⟩ | exact ⟨rfl, rfl, trivial⟩ | exact ⟨⟨rfl, rfl, rfl, rfl⟩, trivial⟩ | (show (_ : Int) ≤ _ ∧ (_ : Int) ≤ _; omega) | (show (_ : Int) ≤ _; omega) | (simp only [EL.len, EL.sz, EL.take, EL.drop, maxL, la, ln, lc, ld, lt, ls, lna]; with_reducible first | omega | exact rngI (by omega) | (and_intros <;> first | trivial | omega | exact rngI (by omega))) | (simp only [EL.len, EL.sz, EL.take, EL.drop, maxL, la, ln, lc, ld, lt, ls, lna] at *; with_reducible first | omega | exact rngI (by omega) | (and_intros <;> first | trivial | omega | exact rngI (by omega))))) | (refine End.mk ?_; exact hF) | refine End.mk ?_ | refine brT ?_ | refine brF ?_ | (refine brT' ?_ ?_; focus with_reducible assumption) | (refine brF' ?_ ?_; focus with_reducible assumption) | (refine Br.mk ?_ ?_ <;> (intro hb; have h := hb; (try simp only [decide_eq_true_eq, decide_eq_false_iff_not, Bool.not_eq_true', Bool.not_eq_false', Bool.not_eq_eq_eq_not, Bool.not_true, Bool.not_false, ge_iff_le, gt_iff_lt, Bool.and_eq_true, Bool.and_eq_false_iff, Bool.or_eq_true, Bool.or_eq_false_iff, beq_self_eq_true, not_true_eq_false, and_self, Bool.true_eq_false, Bool.false_eq_true, not_false_eq_true] at h); (try dsimp only [EL.len] at h); (try (exfalso; first | omega | exact bnF h (by with_reducible assumption) | exact bnT h (by with_reducible assumption))))) | (refine fun (y : Int) (h0 : 0 ≤ y) h1 => ?_)))
      all_goals (refine Exists.intro _ (And.intro ?_ hK); repeat' (first | (refine Side.mk ?_ ?_; focus (first | with_reducible exact rfl | exact Eq.refl true | exact Eq.refl false)) | (refine Side.mk ?_ ?_) | exact True.intro))
      all_goals clear hK
      all_goals (simp_all [codeN] <;> omega)
  · replace hv : rcvV ⟨rr, rt, rl, ro, ra⟩ = false := by simpa using hv
    have he : rstatN ⟨rr, rt, rl, ro, ra⟩ = -1 := by simp [rstatN, hv]
    rw [he] at hK
    repeat' ((conv => whnf); (first | (refine Side.mk ?_ ?_; focus (first | omega | with_reducible assumption | kernel_rfl | exact rfl | (with_reducible first | omega | exact rngI (by omega) | (and_intros <;> first | trivial | omega | exact rngI (by omega))) | (dsimp only [EL.len]; with_reducible first | omega | exact rngI (by omega) | (and_intros <;> first | trivial | omega | exact rngI (by omega))) | with_reducible exact rngB (by omega) | with_reducible exact rngI ⟨by decide, by decide⟩ | exact ⟨rfl, trivial⟩ | exact ⟨rfl, rfl, trivial⟩ | exact ⟨⟨rfl, rfl, rfl, rfl⟩, trivial⟩ | (show (_ : Int) ≤ _ ∧ (_ : Int) ≤ _; omega) | (show (_ : Int) ≤ _; omega) | (simp only [EL.len, EL.sz, EL.take, EL.drop, maxL, la, ln, lc, ld, lt, ls, lna]; with_reducible first | omega | exact rngI (by omega) | (and_intros <;> first | trivial | omega | exact rngI (by omega))) | (simp only [EL.len, EL.sz, EL.take, EL.drop, maxL, la, ln, lc, ld, lt, ls, lna] at *; with_reducible first | omega | exact rngI (by omega) | (and_intros <;> first | trivial | omega | exact rngI (by omega))))) | (refine End.mk ?_; exact hF) | refine End.mk ?_ | refine brT ?_ | refine brF ?_ | (refine brT' ?_ ?_; focus with_reducible assumption) | (refine brF' ?_ ?_; focus with_reducible assumption) | (refine Br.mk ?_ ?_ <;> (intro hb; have h := hb; (try simp only [decide_eq_true_eq, decide_eq_false_iff_not, Bool.not_eq_true', Bool.not_eq_false', Bool.not_eq_eq_eq_not, Bool.not_true, Bool.not_false, ge_iff_le, gt_iff_lt, Bool.and_eq_true, Bool.and_eq_false_iff, Bool.or_eq_true, Bool.or_eq_false_iff, beq_self_eq_true, not_true_eq_false, and_self, Bool.true_eq_false, Bool.false_eq_true, not_false_eq_true] at h); (try dsimp only [EL.len] at h); (try (exfalso; first | omega | exact bnF h (by with_reducible assumption) | exact bnT h (by with_reducible assumption))))) | (refine fun (y : Int) (h0 : 0 ≤ y) h1 => ?_)))
    (refine Exists.intro _ (And.intro ?_ hK); repeat' (first | (refine Side.mk ?_ ?_; focus (first | with_reducible exact rfl | exact Eq.refl true | exact Eq.refl false)) | (refine Side.mk ?_ ?_) | exact True.intro)); all_goals (first | exact rfl | (simp; done))
def c_i_RecvStatus : CS := csOf [.inr [.int, .int, .gots, .bool, .int]] (fun ⟨⟨rr, rt, rl, ro, ra, _⟩, _⟩ K => K (.l (.v (.int .i64 (rstatN ⟨rr, rt, rl, ro, ra⟩)))))
theorem c_i_RecvStatus_ok : CSok Tryd.prog 84 c_i_RecvStatus := cs_ok (by kernel_rfl) con_i_RecvStatus



end Go.Proofs.YtkhggobpanfkfaaDoor
