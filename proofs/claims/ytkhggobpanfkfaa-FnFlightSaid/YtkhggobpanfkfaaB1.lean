/-
  A bit of a number, in the reference; by the abstract walk.
-/
import Derived.Test.YtkhggobpanfkfaaG2
namespace Go.Proofs.Ytkhggobpanfkfaa
open Go.RowKit
open Ab
set_option linter.unusedSimpArgs false
set_option linter.unusedVariables false

def bitB (b : Int) : Bool := b == 1 || b == 2 || b == 4 || b == 8 || b == 32
theorem bitB_or {b : Int} (h : bitB b = true) : b = 1 ∨ b = 2 ∨ b = 4 ∨ b = 8 ∨ b = 32 := by
  simp [bitB] at h
  omega
def env_s_l13Bit : Env := []
theorem env_s_l13Bit_ok : EnvOk Try.prog env_s_l13Bit := envAll_ok trivial
def tr_s_l13Bit : Nat → Tr := fun n => match n with
  | _ => .nil
set_option maxRecDepth 100000 in
set_option maxHeartbeats 2000000 in
theorem con_s_l13Bit : Con Try.prog 25 [.inl .int, .inl .int] (fun ⟨n, b, _⟩ K => Side (0 ≤ n ∧ n ≤ 127) <| Side (bitB b = true) <| K (.l (.v (.bool (decide (n / b % 2 = 1)))))) := by
  refine con_ofN (TR := tr_s_l13Bit) tab_ok mixed_ok env_s_l13Bit_ok Try.func25 rfl ?_
  rintro ⟨(n : Int), (b : Int), _⟩ K ⟨hs, hb, hK⟩ _
  replace hK : K (.l (.v (.bool (decide (n / b % 2 = 1))))) := hK
  replace hs : 0 ≤ n ∧ n ≤ 127 := hs
  replace hb : b = 1 ∨ b = 2 ∨ b = 4 ∨ b = 8 ∨ b = 32 := bitB_or hb
  rcases hb with rfl | rfl | rfl | rfl | rfl
  all_goals
    repeat' ((conv => whnf); (first | (refine Side.mk ?_ ?_; focus (first | omega | with_reducible assumption | kernel_rfl | exact rfl | (with_reducible first | omega | exact rngI (by omega) | (and_intros <;> first | trivial | omega | exact rngI (by omega))) | (dsimp only [EL.len]; with_reducible first | omega | exact rngI (by omega) | (and_intros <;> first | trivial | omega | exact rngI (by omega))) | with_reducible exact rngB (by omega) | with_reducible exact rngI ⟨by decide, by decide⟩ | exact ⟨rfl, trivial⟩ | exact ⟨rfl, rfl, trivial⟩ | exact ⟨⟨rfl, rfl, rfl, rfl⟩, trivial⟩ | (show (_ : Int) ≤ _ ∧ (_ : Int) ≤ _; omega) | (show (_ : Int) ≤ _; omega) | (simp only [EL.len, EL.sz, EL.take, EL.drop, maxL, la, ln, lc, ld, lt, ls, lna]; with_reducible first | omega | exact rngI (by omega) | (and_intros <;> first | trivial | omega | exact rngI (by omega))) | (simp only [EL.len, EL.sz, EL.take, EL.drop, maxL, la, ln, lc, ld, lt, ls, lna] at *; with_reducible first | omega | exact rngI (by omega) | (and_intros <;> first | trivial | omega | exact rngI (by omega))))) | (refine End.mk ?_; exact hF) | refine End.mk ?_ | refine brT ?_ | refine brF ?_ | (refine brT' ?_ ?_; focus with_reducible assumption) | (refine brF' ?_ ?_; focus with_reducible assumption) | (refine Br.mk ?_ ?_ <;> (intro hb; have h := hb; (try simp only [decide_eq_true_eq, decide_eq_false_iff_not, Bool.not_eq_true', Bool.not_eq_false', Bool.not_eq_eq_eq_not, Bool.not_true, Bool.not_false, ge_iff_le, gt_iff_lt, Bool.and_eq_true, Bool.and_eq_false_iff, Bool.or_eq_true, Bool.or_eq_false_iff, beq_self_eq_true, not_true_eq_false, and_self, Bool.true_eq_false, Bool.false_eq_true, not_false_eq_true] at h); (try dsimp only [EL.len] at h); (try (exfalso; first | omega | exact bnF h (by with_reducible assumption) | exact bnT h (by with_reducible assumption))))) | (refine fun (y : Int) (h0 : 0 ≤ y) h1 => ?_)))
    all_goals (refine Exists.intro _ (And.intro ?_ hK); repeat' (first | (refine Side.mk ?_ ?_; focus (first | with_reducible exact rfl | exact Eq.refl true | exact Eq.refl false)) | (refine Side.mk ?_ ?_) | exact True.intro)); all_goals (first | exact rfl | (simp; done))
def c_s_l13Bit : CS := csOf [.inl .int, .inl .int] (fun ⟨n, b, _⟩ K => Side (0 ≤ n ∧ n ≤ 127) <| Side (bitB b = true) <| K (.l (.v (.bool (decide (n / b % 2 = 1))))))
theorem c_s_l13Bit_ok : CSok Try.prog 25 c_s_l13Bit := cs_ok (by kernel_rfl) con_s_l13Bit

end Go.Proofs.Ytkhggobpanfkfaa
