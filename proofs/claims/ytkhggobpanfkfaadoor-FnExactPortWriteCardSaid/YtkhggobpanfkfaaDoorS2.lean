/-
  Senders: the reference's ticks, status and waits, by the abstract walk.
-/
import Derived.Test.YtkhggobpanfkfaaDoorS1
namespace Go.Proofs.YtkhggobpanfkfaaDoor
open Go.RowKit
open Ab
set_option linter.unusedSimpArgs false
set_option linter.unusedVariables false



def env_i_SendStatus : Env := [(60, c_i_SendValid)]
theorem env_i_SendStatus_ok : EnvOk Tryd.prog env_i_SendStatus := envAll_ok ⟨c_i_SendValid_ok, trivial⟩
def tr_i_SendStatus : Nat → Tr := fun n => match n with
  | _ => .nil
set_option maxRecDepth 100000 in
set_option maxHeartbeats 2000000 in
theorem con_i_SendStatus : Con Tryd.prog 85 [.inr [.int, .ints, .int, .int]] (fun ⟨⟨r, l, s, f, _⟩, _⟩ K => K (.l (.v (.int .i64 (statN ⟨r, l, s, f⟩))))) := by
  refine con_ofN (TR := tr_i_SendStatus) tab_ok mixed_ok env_i_SendStatus_ok Tryd.func85 rfl ?_
  rintro ⟨⟨(r : Int), (l : List Int), (s : Int), (f : Int), _⟩, _⟩ K hK ⟨⟨_, hl, _⟩, _⟩
  replace hK : K (.l (.v (.int .i64 (statN ⟨r, l, s, f⟩)))) := hK
  replace hl : l.length ≤ 1099511627776 := hl
  repeat' ((conv => whnf); (first | (refine Side.mk ?_ ?_; focus (first | omega | with_reducible assumption | kernel_rfl | exact rfl | (with_reducible first | omega | exact rngI (by omega) | (and_intros <;> first | trivial | omega | exact rngI (by omega))) | (dsimp only [EL.len]; with_reducible first | omega | exact rngI (by omega) | (and_intros <;> first | trivial | omega | exact rngI (by omega))) | with_reducible exact rngB (by omega) | with_reducible exact rngI ⟨by decide, by decide⟩ | exact ⟨rfl, trivial⟩ | exact ⟨rfl, rfl, trivial⟩ | exact ⟨⟨rfl, rfl, rfl, rfl⟩, trivial⟩ | (show (_ : Int) ≤ _ ∧ (_ : Int) ≤ _; omega) | (show (_ : Int) ≤ _; omega) | (simp only [EL.len, EL.sz, EL.take, EL.drop, maxL, la, ln, lc, ld, lt, ls, lna]; with_reducible first | omega | exact rngI (by omega) | (and_intros <;> first | trivial | omega | exact rngI (by omega))) | (simp only [EL.len, EL.sz, EL.take, EL.drop, maxL, la, ln, lc, ld, lt, ls, lna] at *; with_reducible first | omega | exact rngI (by omega) | (and_intros <;> first | trivial | omega | exact rngI (by omega))))) | (refine End.mk ?_; exact hF) | refine End.mk ?_ | refine brT ?_ | refine brF ?_ | (refine brT' ?_ ?_; focus with_reducible assumption) | (refine brF' ?_ ?_; focus with_reducible assumption) | (refine Br.mk ?_ ?_ <;> (intro hb; have h := hb; (try simp only [decide_eq_true_eq, decide_eq_false_iff_not, Bool.not_eq_true', Bool.not_eq_false', Bool.not_eq_eq_eq_not, Bool.not_true, Bool.not_false, ge_iff_le, gt_iff_lt, Bool.and_eq_true, Bool.and_eq_false_iff, Bool.or_eq_true, Bool.or_eq_false_iff, beq_self_eq_true, not_true_eq_false, and_self, Bool.true_eq_false, Bool.false_eq_true, not_false_eq_true] at h); (try dsimp only [EL.len] at h); (try (exfalso; first | omega | exact bnF h (by with_reducible assumption) | exact bnT h (by with_reducible assumption))))) | (refine fun (y : Int) (h0 : 0 ≤ y) h1 => ?_)))
  all_goals (refine Exists.intro _ (And.intro ?_ hK); repeat' (first | (refine Side.mk ?_ ?_; focus (first | with_reducible exact rfl | exact Eq.refl true | exact Eq.refl false)) | (refine Side.mk ?_ ?_) | exact True.intro))
  all_goals clear hK
  all_goals (simp_all [statN, EL.len] <;> first | done | omega)
def c_i_SendStatus : CS := csOf [.inr [.int, .ints, .int, .int]] (fun ⟨⟨r, l, s, f, _⟩, _⟩ K => K (.l (.v (.int .i64 (statN ⟨r, l, s, f⟩)))))
theorem c_i_SendStatus_ok : CSok Tryd.prog 85 c_i_SendStatus := cs_ok (by kernel_rfl) con_i_SendStatus



end Go.Proofs.YtkhggobpanfkfaaDoor
