/-
  The law FnTickFormat, by the abstract walk.
-/
import Derived.Test.YtonibbcmgiflbaaT4
namespace Go.Proofs.Ytonibbcmgiflbaa
open Go.RowKit
open Ab
set_option linter.unusedSimpArgs false
set_option linter.unusedVariables false

theorem tickR_s {s : Snd} (h : sndV s = true) : tickR s = ⟨(tickV s).1, (tickV s).2, true⟩ := by unfold tickR; rw [if_pos h]
def env_l_FnTickFormat : Env := [(19, c_s_DrawPairTick), (18, c_i_PairTick), (20, c_s_PairTick), (21, c_l_samePair)]
theorem env_l_FnTickFormat_ok : EnvOk Try.prog env_l_FnTickFormat := envAll_ok ⟨c_s_DrawPairTick_ok, c_i_PairTick_ok, c_s_PairTick_ok, c_l_samePair_ok, trivial⟩
def tr_l_FnTickFormat : Nat → Tr := fun n => match n with
  | _ => .nil
set_option maxRecDepth 100000 in
set_option maxHeartbeats 2000000 in
theorem con_l_FnTickFormat : Con Try.prog 6 [.inl .bytes] (fun _ K => K (.l (.v (.bool true)))) := by
  refine con_ofN (TR := tr_l_FnTickFormat) tab_ok mixed_ok env_l_FnTickFormat_ok Try.func6 rfl ?_
  rintro ⟨(c : List UInt8), _⟩ K hK ⟨hl, _⟩
  replace hl : c.length ≤ 1099511627776 := hl
  repeat' ((conv => whnf); (first | (refine Side.mk ?_ ?_; focus (first | omega | kernel_rfl | with_reducible assumption | exact rfl | (with_reducible first | omega | exact rngI (by omega) | (and_intros <;> first | trivial | omega | exact rngI (by omega))) | (dsimp only [EL.len]; with_reducible first | omega | exact rngI (by omega) | (and_intros <;> first | trivial | omega | exact rngI (by omega))) | with_reducible exact rngB (by omega) | with_reducible exact rngI ⟨by decide, by decide⟩ | exact ⟨rfl, trivial⟩ | exact ⟨rfl, rfl, trivial⟩ | exact ⟨⟨rfl, rfl, rfl, rfl⟩, trivial⟩ | (show (_ : Int) ≤ _ ∧ (_ : Int) ≤ _; omega) | (show (_ : Int) ≤ _; omega) | (simp only [EL.len, EL.sz, EL.take, EL.drop, maxL, la, ln, lc, ld, lt, ls, lna]; with_reducible first | omega | exact rngI (by omega) | (and_intros <;> first | trivial | omega | exact rngI (by omega))) | (simp only [EL.len, EL.sz, EL.take, EL.drop, maxL, la, ln, lc, ld, lt, ls, lna] at *; with_reducible first | omega | exact rngI (by omega) | (and_intros <;> first | trivial | omega | exact rngI (by omega))))) | (refine End.mk ?_; exact hF) | refine End.mk ?_ | refine brT ?_ | refine brF ?_ | (refine brT' ?_ ?_; focus with_reducible assumption) | (refine brF' ?_ ?_; focus with_reducible assumption) | (refine Br.mk ?_ ?_ <;> (intro hb; have h := hb; (try simp only [decide_eq_true_eq, decide_eq_false_iff_not, Bool.not_eq_true', Bool.not_eq_false', Bool.not_eq_eq_eq_not, Bool.not_true, Bool.not_false, ge_iff_le, gt_iff_lt, Bool.and_eq_true, Bool.and_eq_false_iff, Bool.or_eq_true, Bool.or_eq_false_iff, beq_self_eq_true, not_true_eq_false, and_self, Bool.true_eq_false, Bool.false_eq_true, not_false_eq_true] at h); (try dsimp only [EL.len] at h); (try (exfalso; first | omega | exact bnF h (by with_reducible assumption) | exact bnT h (by with_reducible assumption))))) | (refine fun (y : Int) (h0 : 0 ≤ y) h1 => ?_)))
  · (refine Exists.intro _ (And.intro ?_ hK); repeat' (first | (refine Side.mk ?_ ?_; focus (first | with_reducible exact rfl | exact Eq.refl true | exact Eq.refl false)) | (refine Side.mk ?_ ?_) | exact True.intro))
  rintro ⟨⟨⟨fbA, fqA, fstA⟩, peA, pcA, ⟨rrA, rtA, rlA, roA, raA⟩, ⟨srA, slA, ssA, sfA⟩, ⟨mcA, mhA, mccA, mhcA⟩⟩, ⟨⟨fbB, fqB, fstB⟩, peB, pcB, ⟨rrB, rtB, rlB, roB, raB⟩, ⟨srB, slB, ssB, sfB⟩, ⟨mcB, mhB, mccB, mhcB⟩⟩⟩ (h1 : rlA.length ≤ 100) (h2 : slA.length ≤ 100) (h3 : rlB.length ≤ 100) (h4 : slB.length ≤ 100)
  cases hv : parV ⟨⟨⟨fbA, fqA, fstA⟩, peA, pcA, ⟨rrA, rtA, rlA, roA, raA⟩, ⟨srA, slA, ssA, sfA⟩, ⟨mcA, mhA, mccA, mhcA⟩⟩, ⟨⟨fbB, fqB, fstB⟩, peB, pcB, ⟨rrB, rtB, rlB, roB, raB⟩, ⟨srB, slB, ssB, sfB⟩, ⟨mcB, mhB, mccB, mhcB⟩⟩⟩ with
  | false =>
    have e : ptickR ⟨⟨⟨fbA, fqA, fstA⟩, peA, pcA, ⟨rrA, rtA, rlA, roA, raA⟩, ⟨srA, slA, ssA, sfA⟩, ⟨mcA, mhA, mccA, mhcA⟩⟩, ⟨⟨fbB, fqB, fstB⟩, peB, pcB, ⟨rrB, rtB, rlB, roB, raB⟩, ⟨srB, slB, ssB, sfB⟩, ⟨mcB, mhB, mccB, mhcB⟩⟩⟩ = ⟨par0, false⟩ := by simp [ptickR, hv]
    repeat' ((conv => whnf); (first | (refine Side.mk ?_ ?_; focus (first | omega | kernel_rfl | with_reducible assumption | exact rfl | (with_reducible first | omega | exact rngI (by omega) | (and_intros <;> first | trivial | omega | exact rngI (by omega))) | (dsimp only [EL.len]; with_reducible first | omega | exact rngI (by omega) | (and_intros <;> first | trivial | omega | exact rngI (by omega))) | with_reducible exact rngB (by omega) | with_reducible exact rngI ⟨by decide, by decide⟩ | exact ⟨rfl, trivial⟩ | exact ⟨rfl, rfl, trivial⟩ | exact ⟨⟨rfl, rfl, rfl, rfl⟩, trivial⟩ | (show (_ : Int) ≤ _ ∧ (_ : Int) ≤ _; omega) | (show (_ : Int) ≤ _; omega) | (simp only [EL.len, EL.sz, EL.take, EL.drop, maxL, la, ln, lc, ld, lt, ls, lna]; with_reducible first | omega | exact rngI (by omega) | (and_intros <;> first | trivial | omega | exact rngI (by omega))) | (simp only [EL.len, EL.sz, EL.take, EL.drop, maxL, la, ln, lc, ld, lt, ls, lna] at *; with_reducible first | omega | exact rngI (by omega) | (and_intros <;> first | trivial | omega | exact rngI (by omega))))) | (refine End.mk ?_; exact hF) | refine End.mk ?_ | refine brT ?_ | refine brF ?_ | (refine brT' ?_ ?_; focus with_reducible assumption) | (refine brF' ?_ ?_; focus with_reducible assumption) | (refine brT' ?_ ?_; focus (simp only [beq_self_eq_true, eq_self, and_self, Bool.not_true, Bool.not_false, sameP_refl, decide_true, decide_false, Bool.and_true, Bool.true_and, Bool.or_false, Bool.false_or, not_true_eq_false, not_false_eq_true, e, sameQ_refl]; done)) | (refine brF' ?_ ?_; focus (simp only [beq_self_eq_true, eq_self, and_self, Bool.not_true, Bool.not_false, sameP_refl, decide_true, decide_false, Bool.and_true, Bool.true_and, Bool.or_false, Bool.false_or, not_true_eq_false, not_false_eq_true, e, sameQ_refl]; done)) | (refine Br.mk ?_ ?_ <;> (intro hb; have h := hb; (try simp only [decide_eq_true_eq, decide_eq_false_iff_not, Bool.not_eq_true', Bool.not_eq_false', Bool.not_eq_eq_eq_not, Bool.not_true, Bool.not_false, ge_iff_le, gt_iff_lt, Bool.and_eq_true, Bool.and_eq_false_iff, Bool.or_eq_true, Bool.or_eq_false_iff, beq_self_eq_true, not_true_eq_false, and_self, Bool.true_eq_false, Bool.false_eq_true, not_false_eq_true] at h); (try dsimp only [EL.len] at h); (try (exfalso; first | omega | exact bnF h (by with_reducible assumption) | exact bnT h (by with_reducible assumption))))) | (refine fun (y : Int) (h0 : 0 ≤ y) h1 => ?_)))
    all_goals
      (refine Exists.intro _ (And.intro ?_ hK); repeat' (first | (refine Side.mk ?_ ?_; focus (first | with_reducible exact rfl | exact Eq.refl true | exact Eq.refl false)) | (refine Side.mk ?_ ?_) | exact True.intro))
      simp [e, sameQ_refl]
  | true =>
    have e : ptickR ⟨⟨⟨fbA, fqA, fstA⟩, peA, pcA, ⟨rrA, rtA, rlA, roA, raA⟩, ⟨srA, slA, ssA, sfA⟩, ⟨mcA, mhA, mccA, mhcA⟩⟩, ⟨⟨fbB, fqB, fstB⟩, peB, pcB, ⟨rrB, rtB, rlB, roB, raB⟩, ⟨srB, slB, ssB, sfB⟩, ⟨mcB, mhB, mccB, mhcB⟩⟩⟩ = ⟨ptick ⟨⟨⟨fbA, fqA, fstA⟩, peA, pcA, ⟨rrA, rtA, rlA, roA, raA⟩, ⟨srA, slA, ssA, sfA⟩, ⟨mcA, mhA, mccA, mhcA⟩⟩, ⟨⟨fbB, fqB, fstB⟩, peB, pcB, ⟨rrB, rtB, rlB, roB, raB⟩, ⟨srB, slB, ssB, sfB⟩, ⟨mcB, mhB, mccB, mhcB⟩⟩⟩, true⟩ := by simp [ptickR, hv]
    have hv2 : parV (ptickR ⟨⟨⟨fbA, fqA, fstA⟩, peA, pcA, ⟨rrA, rtA, rlA, roA, raA⟩, ⟨srA, slA, ssA, sfA⟩, ⟨mcA, mhA, mccA, mhcA⟩⟩, ⟨⟨fbB, fqB, fstB⟩, peB, pcB, ⟨rrB, rtB, rlB, roB, raB⟩, ⟨srB, slB, ssB, sfB⟩, ⟨mcB, mhB, mccB, mhcB⟩⟩⟩).p = true := by
      rw [e]
      exact ptick_valid hv
    obtain ⟨va, vb⟩ := parV_bd hv
    obtain ⟨a1, a2, a3, a4, a5⟩ := prtV_bd va
    obtain ⟨b1, b2, b3, b4, b5⟩ := prtV_bd vb
    dsimp only at a1 a2 a3 a4 a5 b1 b2 b3 b4 b5
    have ea := tickR_s a5
    have eb := tickR_s b5
    have hor : (ptickR ⟨⟨⟨fbA, fqA, fstA⟩, peA, pcA, ⟨rrA, rtA, rlA, roA, raA⟩, ⟨srA, slA, ssA, sfA⟩, ⟨mcA, mhA, mccA, mhcA⟩⟩, ⟨⟨fbB, fqB, fstB⟩, peB, pcB, ⟨rrB, rtB, rlB, roB, raB⟩, ⟨srB, slB, ssB, sfB⟩, ⟨mcB, mhB, mccB, mhcB⟩⟩⟩).p.b.rc.items.length ≤ rlB.length ∨ codeP ⟨fbB, fqB, fstB⟩ ⟨fbA, fqA, fstA⟩ = 0 ∨ ((ptickR ⟨⟨⟨fbA, fqA, fstA⟩, peA, pcA, ⟨rrA, rtA, rlA, roA, raA⟩, ⟨srA, slA, ssA, sfA⟩, ⟨mcA, mhA, mccA, mhcA⟩⟩, ⟨⟨fbB, fqB, fstB⟩, peB, pcB, ⟨rrB, rtB, rlB, roB, raB⟩, ⟨srB, slB, ssB, sfB⟩, ⟨mcB, mhB, mccB, mhcB⟩⟩⟩).p.b.rc.items.getD rlB.length (0, 0)).2 = 2 := by
      rw [e]
      show (arriveR ⟨rrB, rtB, rlB, roB, raB⟩ ⟨fbB, fqB, fstB⟩ ⟨fbA, fqA, fstA⟩ (tickV ⟨srA, slA, ssA, sfA⟩).2).items.length ≤ rlB.length ∨ codeP ⟨fbB, fqB, fstB⟩ ⟨fbA, fqA, fstA⟩ = 0 ∨ ((arriveR ⟨rrB, rtB, rlB, roB, raB⟩ ⟨fbB, fqB, fstB⟩ ⟨fbA, fqA, fstA⟩ (tickV ⟨srA, slA, ssA, sfA⟩).2).items.getD rlB.length (0, 0)).2 = 2
      unfold arriveR
      split
      · exact .inl (Nat.le_refl _)
      · unfold rputV
        split
        · right
          by_cases hc : (⟨fbB, fqB, fstB⟩ : Fmt) = ⟨fbA, fqA, fstA⟩
          · left
            simp only [codeP, if_pos hc]
          · right
            simp [codeP, hc]
        · exact .inl (Nat.le_refl _)
    cases hqf : (decide (fbA = fbB) && (decide (fqA = fqB) && (decide (fstA = fstB) && true))) with
    | true =>
      repeat' ((conv => whnf); (first | (refine Side.mk ?_ ?_; focus (first | omega | kernel_rfl | with_reducible assumption | exact rfl | (with_reducible first | omega | exact rngI (by omega) | (and_intros <;> first | trivial | omega | exact rngI (by omega))) | (dsimp only [EL.len]; with_reducible first | omega | exact rngI (by omega) | (and_intros <;> first | trivial | omega | exact rngI (by omega))) | with_reducible exact rngB (by omega) | with_reducible exact rngI ⟨by decide, by decide⟩ | exact ⟨rfl, trivial⟩ | exact ⟨rfl, rfl, trivial⟩ | exact ⟨⟨rfl, rfl, rfl, rfl⟩, trivial⟩ | (show (_ : Int) ≤ _ ∧ (_ : Int) ≤ _; omega) | (show (_ : Int) ≤ _; omega) | (simp only [EL.len, EL.sz, EL.take, EL.drop, maxL, la, ln, lc, ld, lt, ls, lna]; with_reducible first | omega | exact rngI (by omega) | (and_intros <;> first | trivial | omega | exact rngI (by omega))) | (simp only [EL.len, EL.sz, EL.take, EL.drop, maxL, la, ln, lc, ld, lt, ls, lna] at *; with_reducible first | omega | exact rngI (by omega) | (and_intros <;> first | trivial | omega | exact rngI (by omega))))) | (refine End.mk ?_; exact hF) | refine End.mk ?_ | refine brT ?_ | refine brF ?_ | (refine brT' ?_ ?_; focus with_reducible assumption) | (refine brF' ?_ ?_; focus with_reducible assumption) | (refine brT' ?_ ?_; focus (simp only [beq_self_eq_true, eq_self, and_self, Bool.not_true, Bool.not_false, sameP_refl, decide_true, decide_false, Bool.and_true, Bool.true_and, Bool.or_false, Bool.false_or, not_true_eq_false, not_false_eq_true, e, sameQ_refl]; done)) | (refine brF' ?_ ?_; focus (simp only [beq_self_eq_true, eq_self, and_self, Bool.not_true, Bool.not_false, sameP_refl, decide_true, decide_false, Bool.and_true, Bool.true_and, Bool.or_false, Bool.false_or, not_true_eq_false, not_false_eq_true, e, sameQ_refl]; done)) | (refine Br.mk ?_ ?_ <;> (intro hb; have h := hb; (try simp only [decide_eq_true_eq, decide_eq_false_iff_not, Bool.not_eq_true', Bool.not_eq_false', Bool.not_eq_eq_eq_not, Bool.not_true, Bool.not_false, ge_iff_le, gt_iff_lt, Bool.and_eq_true, Bool.and_eq_false_iff, Bool.or_eq_true, Bool.or_eq_false_iff, beq_self_eq_true, not_true_eq_false, and_self, Bool.true_eq_false, Bool.false_eq_true, not_false_eq_true] at h); (try dsimp only [EL.len] at h); (try (exfalso; first | omega | exact bnF h (by with_reducible assumption) | exact bnT h (by with_reducible assumption))))) | (refine fun (y : Int) (h0 : 0 ≤ y) h1 => ?_)))
      all_goals first
        | ((refine Exists.intro _ (And.intro ?_ hK); repeat' (first | (refine Side.mk ?_ ?_; focus (first | with_reducible exact rfl | exact Eq.refl true | exact Eq.refl false)) | (refine Side.mk ?_ ?_) | exact True.intro)); done)
        | ((refine Exists.intro _ (And.intro ?_ hK); repeat' (first | (refine Side.mk ?_ ?_; focus (first | with_reducible exact rfl | exact Eq.refl true | exact Eq.refl false)) | (refine Side.mk ?_ ?_) | exact True.intro)); simp [e, sameQ_refl]; done)
    | false =>
      have c2 : codeP ⟨fbB, fqB, fstB⟩ ⟨fbA, fqA, fstA⟩ = 2 := by
        unfold codeP
        rw [if_neg]
        intro hc
        cases hc
        simp at hqf
      have hor2 : (ptickR ⟨⟨⟨fbA, fqA, fstA⟩, peA, pcA, ⟨rrA, rtA, rlA, roA, raA⟩, ⟨srA, slA, ssA, sfA⟩, ⟨mcA, mhA, mccA, mhcA⟩⟩, ⟨⟨fbB, fqB, fstB⟩, peB, pcB, ⟨rrB, rtB, rlB, roB, raB⟩, ⟨srB, slB, ssB, sfB⟩, ⟨mcB, mhB, mccB, mhcB⟩⟩⟩).p.b.rc.items.length ≤ rlB.length ∨ ((ptickR ⟨⟨⟨fbA, fqA, fstA⟩, peA, pcA, ⟨rrA, rtA, rlA, roA, raA⟩, ⟨srA, slA, ssA, sfA⟩, ⟨mcA, mhA, mccA, mhcA⟩⟩, ⟨⟨fbB, fqB, fstB⟩, peB, pcB, ⟨rrB, rtB, rlB, roB, raB⟩, ⟨srB, slB, ssB, sfB⟩, ⟨mcB, mhB, mccB, mhcB⟩⟩⟩).p.b.rc.items.getD rlB.length (0, 0)).2 = 2 := by
        rcases hor with h | h | h
        · exact .inl h
        · rw [c2] at h
          exact absurd h (by decide)
        · exact .inr h
      repeat' ((conv => whnf); (first | (refine Side.mk ?_ ?_; focus (first | omega | kernel_rfl | with_reducible assumption | exact rfl | (with_reducible first | omega | exact rngI (by omega) | (and_intros <;> first | trivial | omega | exact rngI (by omega))) | (dsimp only [EL.len]; with_reducible first | omega | exact rngI (by omega) | (and_intros <;> first | trivial | omega | exact rngI (by omega))) | with_reducible exact rngB (by omega) | with_reducible exact rngI ⟨by decide, by decide⟩ | exact ⟨rfl, trivial⟩ | exact ⟨rfl, rfl, trivial⟩ | exact ⟨⟨rfl, rfl, rfl, rfl⟩, trivial⟩ | (show (_ : Int) ≤ _ ∧ (_ : Int) ≤ _; omega) | (show (_ : Int) ≤ _; omega) | (simp only [EL.len, EL.sz, EL.take, EL.drop, maxL, la, ln, lc, ld, lt, ls, lna]; with_reducible first | omega | exact rngI (by omega) | (and_intros <;> first | trivial | omega | exact rngI (by omega))) | (simp only [EL.len, EL.sz, EL.take, EL.drop, maxL, la, ln, lc, ld, lt, ls, lna] at *; with_reducible first | omega | exact rngI (by omega) | (and_intros <;> first | trivial | omega | exact rngI (by omega))))) | (refine End.mk ?_; exact hF) | refine End.mk ?_ | refine brT ?_ | refine brF ?_ | (refine brT' ?_ ?_; focus with_reducible assumption) | (refine brF' ?_ ?_; focus with_reducible assumption) | (refine brT' ?_ ?_; focus (simp only [beq_self_eq_true, eq_self, and_self, Bool.not_true, Bool.not_false, sameP_refl, decide_true, decide_false, Bool.and_true, Bool.true_and, Bool.or_false, Bool.false_or, not_true_eq_false, not_false_eq_true, e, sameQ_refl]; done)) | (refine brF' ?_ ?_; focus (simp only [beq_self_eq_true, eq_self, and_self, Bool.not_true, Bool.not_false, sameP_refl, decide_true, decide_false, Bool.and_true, Bool.true_and, Bool.or_false, Bool.false_or, not_true_eq_false, not_false_eq_true, e, sameQ_refl]; done)) | (refine Br.mk ?_ ?_ <;> (intro hb; have h := hb; (try simp only [decide_eq_true_eq, decide_eq_false_iff_not, Bool.not_eq_true', Bool.not_eq_false', Bool.not_eq_eq_eq_not, Bool.not_true, Bool.not_false, ge_iff_le, gt_iff_lt, Bool.and_eq_true, Bool.and_eq_false_iff, Bool.or_eq_true, Bool.or_eq_false_iff, beq_self_eq_true, not_true_eq_false, and_self, Bool.true_eq_false, Bool.false_eq_true, not_false_eq_true] at h); (try dsimp only [EL.len] at h); (try (exfalso; first | omega | exact bnF h (by with_reducible assumption) | exact bnT h (by with_reducible assumption))))) | (refine fun (y : Int) (h0 : 0 ≤ y) h1 => ?_)))
      all_goals first
        | ((refine Exists.intro _ (And.intro ?_ hK); repeat' (first | (refine Side.mk ?_ ?_; focus (first | with_reducible exact rfl | exact Eq.refl true | exact Eq.refl false)) | (refine Side.mk ?_ ?_) | exact True.intro)); done)
        | ((refine Exists.intro _ (And.intro ?_ hK); repeat' (first | (refine Side.mk ?_ ?_; focus (first | with_reducible exact rfl | exact Eq.refl true | exact Eq.refl false)) | (refine Side.mk ?_ ?_) | exact True.intro)); simp [e, sameQ_refl]; done)
        | ((refine Exists.intro _ (And.intro ?_ hK); repeat' (first | (refine Side.mk ?_ ?_; focus (first | with_reducible exact rfl | exact Eq.refl true | exact Eq.refl false)) | (refine Side.mk ?_ ?_) | exact True.intro)); rcases hor2 with h5 | h5
           · exfalso
             omega
           · simpa [EL.len] using h5)

set_option maxRecDepth 100000 in
set_option maxHeartbeats 2000000 in
theorem law_l_FnTickFormat (v : Value) (w : World) (h : CodeB w v) : Calls Try.prog 6 #[v] w fun e w2 => e = .returned (.bool true) ∧ Below w.heap.size w w2 := by
  refine law_ofN (TR := tr_l_FnTickFormat) tab_ok mixed_ok env_l_FnTickFormat_ok Try.func6 rfl (fun a n c hn => ?_) con_l_FnTickFormat v w h
  repeat' ((conv => whnf); (first | (refine Side.mk ?_ ?_; focus (first | omega | kernel_rfl | with_reducible assumption | exact rfl | (with_reducible first | omega | exact rngI (by omega) | (and_intros <;> first | trivial | omega | exact rngI (by omega))) | (dsimp only [EL.len]; with_reducible first | omega | exact rngI (by omega) | (and_intros <;> first | trivial | omega | exact rngI (by omega))) | with_reducible exact rngB (by omega) | with_reducible exact rngI ⟨by decide, by decide⟩ | exact ⟨rfl, trivial⟩ | exact ⟨rfl, rfl, trivial⟩ | exact ⟨⟨rfl, rfl, rfl, rfl⟩, trivial⟩ | (show (_ : Int) ≤ _ ∧ (_ : Int) ≤ _; omega) | (show (_ : Int) ≤ _; omega) | (simp only [EL.len, EL.sz, EL.take, EL.drop, maxL, la, ln, lc, ld, lt, ls, lna]; with_reducible first | omega | exact rngI (by omega) | (and_intros <;> first | trivial | omega | exact rngI (by omega))) | (simp only [EL.len, EL.sz, EL.take, EL.drop, maxL, la, ln, lc, ld, lt, ls, lna] at *; with_reducible first | omega | exact rngI (by omega) | (and_intros <;> first | trivial | omega | exact rngI (by omega))))) | (refine End.mk ?_; exact hF) | refine End.mk ?_ | refine brT ?_ | refine brF ?_ | (refine brT' ?_ ?_; focus with_reducible assumption) | (refine brF' ?_ ?_; focus with_reducible assumption) | (refine Br.mk ?_ ?_ <;> (intro hb; have h := hb; (try simp only [decide_eq_true_eq, decide_eq_false_iff_not, Bool.not_eq_true', Bool.not_eq_false', Bool.not_eq_eq_eq_not, Bool.not_true, Bool.not_false, ge_iff_le, gt_iff_lt, Bool.and_eq_true, Bool.and_eq_false_iff, Bool.or_eq_true, Bool.or_eq_false_iff, beq_self_eq_true, not_true_eq_false, and_self, Bool.true_eq_false, Bool.false_eq_true, not_false_eq_true] at h); (try dsimp only [EL.len] at h); (try (exfalso; first | omega | exact bnF h (by with_reducible assumption) | exact bnT h (by with_reducible assumption))))) | (refine fun (y : Int) (h0 : 0 ≤ y) h1 => ?_)))
  all_goals first | exact rfl | omega

end Go.Proofs.Ytonibbcmgiflbaa
