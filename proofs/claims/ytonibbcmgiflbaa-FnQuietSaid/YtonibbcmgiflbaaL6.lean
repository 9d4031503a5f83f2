/-
  The law FnQuiet, by the abstract walk.
-/
import Derived.Test.YtonibbcmgiflbaaT4
namespace Go.Proofs.Ytonibbcmgiflbaa
open Go.RowKit
open Ab
set_option linter.unusedSimpArgs false
set_option linter.unusedVariables false

theorem quiet_snd {s : Snd} (hv : sndV s = true) (h : statN s = 96) : (tickV s).2 = -1 ∧ statN (tickV s).1 = 96 := by
  have h2 := tick_valid hv
  simp only [statN, hv, if_true] at h
  obtain ⟨r, l, s, f⟩ := s
  dsimp only at h
  by_cases hl : 0 < l.length
  · simp [hl] at h
  · rw [if_neg hl] at h
    by_cases hs : s = -1
    · subst hs
      have : l = [] := by cases l with
        | nil => rfl
        | cons _ _ => simp at hl
      subst this
      refine ⟨rfl, ?_⟩
      unfold statN
      rw [if_pos h2]
      rfl
    · rw [if_neg hs] at h
      omega

def env_l_FnQuiet : Env := [(15, c_s_DrawPairQuiet), (16, c_i_PairQuiet), (17, c_s_PairQuiet), (18, c_i_PairTick)]
theorem env_l_FnQuiet_ok : EnvOk Try.prog env_l_FnQuiet := envAll_ok ⟨c_s_DrawPairQuiet_ok, c_i_PairQuiet_ok, c_s_PairQuiet_ok, c_i_PairTick_ok, trivial⟩
def tr_l_FnQuiet : Nat → Tr := fun n => match n with
  | _ => .nil
set_option maxRecDepth 100000 in
set_option maxHeartbeats 2000000 in
theorem con_l_FnQuiet : Con Try.prog 3 [.inl .bytes] (fun _ K => K (.l (.v (.bool true)))) := by
  refine con_ofN (TR := tr_l_FnQuiet) tab_ok mixed_ok env_l_FnQuiet_ok Try.func3 rfl ?_
  rintro ⟨(c : List UInt8), _⟩ K hK ⟨hl, _⟩
  replace hl : c.length ≤ 1099511627776 := hl
  repeat' ((conv => whnf); (first | (refine Side.mk ?_ ?_; focus (first | omega | kernel_rfl | with_reducible assumption | exact rfl | (with_reducible first | omega | exact rngI (by omega) | (and_intros <;> first | trivial | omega | exact rngI (by omega))) | (dsimp only [EL.len]; with_reducible first | omega | exact rngI (by omega) | (and_intros <;> first | trivial | omega | exact rngI (by omega))) | with_reducible exact rngB (by omega) | with_reducible exact rngI ⟨by decide, by decide⟩ | exact ⟨rfl, trivial⟩ | exact ⟨rfl, rfl, trivial⟩ | exact ⟨⟨rfl, rfl, rfl, rfl⟩, trivial⟩ | (show (_ : Int) ≤ _ ∧ (_ : Int) ≤ _; omega) | (show (_ : Int) ≤ _; omega) | (simp only [EL.len, EL.sz, EL.take, EL.drop, maxL, la, ln, lc, ld, lt, ls, lna]; with_reducible first | omega | exact rngI (by omega) | (and_intros <;> first | trivial | omega | exact rngI (by omega))) | (simp only [EL.len, EL.sz, EL.take, EL.drop, maxL, la, ln, lc, ld, lt, ls, lna] at *; with_reducible first | omega | exact rngI (by omega) | (and_intros <;> first | trivial | omega | exact rngI (by omega))))) | (refine End.mk ?_; exact hF) | refine End.mk ?_ | refine brT ?_ | refine brF ?_ | (refine brT' ?_ ?_; focus with_reducible assumption) | (refine brF' ?_ ?_; focus with_reducible assumption) | (refine Br.mk ?_ ?_ <;> (intro hb; have h := hb; (try simp only [decide_eq_true_eq, decide_eq_false_iff_not, Bool.not_eq_true', Bool.not_eq_false', Bool.not_eq_eq_eq_not, Bool.not_true, Bool.not_false, ge_iff_le, gt_iff_lt, Bool.and_eq_true, Bool.and_eq_false_iff, Bool.or_eq_true, Bool.or_eq_false_iff, beq_self_eq_true, not_true_eq_false, and_self, Bool.true_eq_false, Bool.false_eq_true, not_false_eq_true] at h); (try dsimp only [EL.len] at h); (try (exfalso; first | omega | exact bnF h (by with_reducible assumption) | exact bnT h (by with_reducible assumption))))) | (refine fun (y : Int) (h0 : 0 ≤ y) h1 => ?_)))
  · (refine Exists.intro _ (And.intro ?_ hK); repeat' (first | (refine Side.mk ?_ ?_; focus (first | with_reducible exact rfl | exact Eq.refl true | exact Eq.refl false)) | (refine Side.mk ?_ ?_) | exact True.intro))
  rintro ⟨⟨⟨fbA, fqA, fstA⟩, peA, pcA, ⟨rrA, rtA, rlA, roA, raA⟩, ⟨srA, slA, ssA, sfA⟩, ⟨mcA, mhA, mccA, mhcA⟩⟩, ⟨⟨fbB, fqB, fstB⟩, peB, pcB, ⟨rrB, rtB, rlB, roB, raB⟩, ⟨srB, slB, ssB, sfB⟩, ⟨mcB, mhB, mccB, mhcB⟩⟩⟩ (h1 : rlA.length ≤ 100) (h2 : slA.length ≤ 100) (h3 : rlB.length ≤ 100) (h4 : slB.length ≤ 100)
  cases hq : quietV ⟨⟨⟨fbA, fqA, fstA⟩, peA, pcA, ⟨rrA, rtA, rlA, roA, raA⟩, ⟨srA, slA, ssA, sfA⟩, ⟨mcA, mhA, mccA, mhcA⟩⟩, ⟨⟨fbB, fqB, fstB⟩, peB, pcB, ⟨rrB, rtB, rlB, roB, raB⟩, ⟨srB, slB, ssB, sfB⟩, ⟨mcB, mhB, mccB, mhcB⟩⟩⟩ with
  | false =>
    repeat' ((conv => whnf); (first | (refine Side.mk ?_ ?_; focus (first | omega | kernel_rfl | with_reducible assumption | exact rfl | (with_reducible first | omega | exact rngI (by omega) | (and_intros <;> first | trivial | omega | exact rngI (by omega))) | (dsimp only [EL.len]; with_reducible first | omega | exact rngI (by omega) | (and_intros <;> first | trivial | omega | exact rngI (by omega))) | with_reducible exact rngB (by omega) | with_reducible exact rngI ⟨by decide, by decide⟩ | exact ⟨rfl, trivial⟩ | exact ⟨rfl, rfl, trivial⟩ | exact ⟨⟨rfl, rfl, rfl, rfl⟩, trivial⟩ | (show (_ : Int) ≤ _ ∧ (_ : Int) ≤ _; omega) | (show (_ : Int) ≤ _; omega) | (simp only [EL.len, EL.sz, EL.take, EL.drop, maxL, la, ln, lc, ld, lt, ls, lna]; with_reducible first | omega | exact rngI (by omega) | (and_intros <;> first | trivial | omega | exact rngI (by omega))) | (simp only [EL.len, EL.sz, EL.take, EL.drop, maxL, la, ln, lc, ld, lt, ls, lna] at *; with_reducible first | omega | exact rngI (by omega) | (and_intros <;> first | trivial | omega | exact rngI (by omega))))) | (refine End.mk ?_; exact hF) | refine End.mk ?_ | refine brT ?_ | refine brF ?_ | (refine brT' ?_ ?_; focus with_reducible assumption) | (refine brF' ?_ ?_; focus with_reducible assumption) | (refine brT' ?_ ?_; focus (simp only [beq_self_eq_true, eq_self, and_self, Bool.not_true, Bool.not_false, sameP_refl, decide_true, decide_false, Bool.and_true, Bool.true_and, Bool.or_false, Bool.false_or, not_true_eq_false, not_false_eq_true, hq]; done)) | (refine brF' ?_ ?_; focus (simp only [beq_self_eq_true, eq_self, and_self, Bool.not_true, Bool.not_false, sameP_refl, decide_true, decide_false, Bool.and_true, Bool.true_and, Bool.or_false, Bool.false_or, not_true_eq_false, not_false_eq_true, hq]; done)) | (refine Br.mk ?_ ?_ <;> (intro hb; have h := hb; (try simp only [decide_eq_true_eq, decide_eq_false_iff_not, Bool.not_eq_true', Bool.not_eq_false', Bool.not_eq_eq_eq_not, Bool.not_true, Bool.not_false, ge_iff_le, gt_iff_lt, Bool.and_eq_true, Bool.and_eq_false_iff, Bool.or_eq_true, Bool.or_eq_false_iff, beq_self_eq_true, not_true_eq_false, and_self, Bool.true_eq_false, Bool.false_eq_true, not_false_eq_true] at h); (try dsimp only [EL.len] at h); (try (exfalso; first | omega | exact bnF h (by with_reducible assumption) | exact bnT h (by with_reducible assumption))))) | (refine fun (y : Int) (h0 : 0 ≤ y) h1 => ?_)))
    all_goals
      (refine Exists.intro _ (And.intro ?_ hK); repeat' (first | (refine Side.mk ?_ ?_; focus (first | with_reducible exact rfl | exact Eq.refl true | exact Eq.refl false)) | (refine Side.mk ?_ ?_) | exact True.intro))
      simp [hq]
  | true =>
    have hq2 := hq
    simp only [quietV, Bool.and_eq_true, decide_eq_true_eq] at hq2
    obtain ⟨hv, qa, qb⟩ := hq2
    have e : ptickR ⟨⟨⟨fbA, fqA, fstA⟩, peA, pcA, ⟨rrA, rtA, rlA, roA, raA⟩, ⟨srA, slA, ssA, sfA⟩, ⟨mcA, mhA, mccA, mhcA⟩⟩, ⟨⟨fbB, fqB, fstB⟩, peB, pcB, ⟨rrB, rtB, rlB, roB, raB⟩, ⟨srB, slB, ssB, sfB⟩, ⟨mcB, mhB, mccB, mhcB⟩⟩⟩ = ⟨ptick ⟨⟨⟨fbA, fqA, fstA⟩, peA, pcA, ⟨rrA, rtA, rlA, roA, raA⟩, ⟨srA, slA, ssA, sfA⟩, ⟨mcA, mhA, mccA, mhcA⟩⟩, ⟨⟨fbB, fqB, fstB⟩, peB, pcB, ⟨rrB, rtB, rlB, roB, raB⟩, ⟨srB, slB, ssB, sfB⟩, ⟨mcB, mhB, mccB, mhcB⟩⟩⟩, true⟩ := by simp [ptickR, hv]
    obtain ⟨va, vb⟩ := parV_bd hv
    obtain ⟨ga, sa⟩ := quiet_snd (prtV_bd va).2.2.2.2 qa
    obtain ⟨gb, sb⟩ := quiet_snd (prtV_bd vb).2.2.2.2 qb
    have hq3 : quietV (ptickR ⟨⟨⟨fbA, fqA, fstA⟩, peA, pcA, ⟨rrA, rtA, rlA, roA, raA⟩, ⟨srA, slA, ssA, sfA⟩, ⟨mcA, mhA, mccA, mhcA⟩⟩, ⟨⟨fbB, fqB, fstB⟩, peB, pcB, ⟨rrB, rtB, rlB, roB, raB⟩, ⟨srB, slB, ssB, sfB⟩, ⟨mcB, mhB, mccB, mhcB⟩⟩⟩).p = true := by
      rw [e]
      simp only [quietV, Bool.and_eq_true, decide_eq_true_eq]
      exact ⟨ptick_valid hv, sa, sb⟩
    have ia : (ptick ⟨⟨⟨fbA, fqA, fstA⟩, peA, pcA, ⟨rrA, rtA, rlA, roA, raA⟩, ⟨srA, slA, ssA, sfA⟩, ⟨mcA, mhA, mccA, mhcA⟩⟩, ⟨⟨fbB, fqB, fstB⟩, peB, pcB, ⟨rrB, rtB, rlB, roB, raB⟩, ⟨srB, slB, ssB, sfB⟩, ⟨mcB, mhB, mccB, mhcB⟩⟩⟩).a.rc.items = rlA := by
      show (arriveV ⟨⟨fbA, fqA, fstA⟩, peA, pcA, ⟨rrA, rtA, rlA, roA, raA⟩, ⟨srA, slA, ssA, sfA⟩, ⟨mcA, mhA, mccA, mhcA⟩⟩ ⟨fbB, fqB, fstB⟩ (tickV ⟨srB, slB, ssB, sfB⟩).2).items = rlA
      rw [gb]
      rfl
    have ib : (ptick ⟨⟨⟨fbA, fqA, fstA⟩, peA, pcA, ⟨rrA, rtA, rlA, roA, raA⟩, ⟨srA, slA, ssA, sfA⟩, ⟨mcA, mhA, mccA, mhcA⟩⟩, ⟨⟨fbB, fqB, fstB⟩, peB, pcB, ⟨rrB, rtB, rlB, roB, raB⟩, ⟨srB, slB, ssB, sfB⟩, ⟨mcB, mhB, mccB, mhcB⟩⟩⟩).b.rc.items = rlB := by
      show (arriveV ⟨⟨fbB, fqB, fstB⟩, peB, pcB, ⟨rrB, rtB, rlB, roB, raB⟩, ⟨srB, slB, ssB, sfB⟩, ⟨mcB, mhB, mccB, mhcB⟩⟩ ⟨fbA, fqA, fstA⟩ (tickV ⟨srA, slA, ssA, sfA⟩).2).items = rlB
      rw [ga]
      rfl
    repeat' ((conv => whnf); (first | (refine Side.mk ?_ ?_; focus (first | omega | kernel_rfl | with_reducible assumption | exact rfl | (with_reducible first | omega | exact rngI (by omega) | (and_intros <;> first | trivial | omega | exact rngI (by omega))) | (dsimp only [EL.len]; with_reducible first | omega | exact rngI (by omega) | (and_intros <;> first | trivial | omega | exact rngI (by omega))) | with_reducible exact rngB (by omega) | with_reducible exact rngI ⟨by decide, by decide⟩ | exact ⟨rfl, trivial⟩ | exact ⟨rfl, rfl, trivial⟩ | exact ⟨⟨rfl, rfl, rfl, rfl⟩, trivial⟩ | (show (_ : Int) ≤ _ ∧ (_ : Int) ≤ _; omega) | (show (_ : Int) ≤ _; omega) | (simp only [EL.len, EL.sz, EL.take, EL.drop, maxL, la, ln, lc, ld, lt, ls, lna]; with_reducible first | omega | exact rngI (by omega) | (and_intros <;> first | trivial | omega | exact rngI (by omega))) | (simp only [EL.len, EL.sz, EL.take, EL.drop, maxL, la, ln, lc, ld, lt, ls, lna] at *; with_reducible first | omega | exact rngI (by omega) | (and_intros <;> first | trivial | omega | exact rngI (by omega))))) | (refine End.mk ?_; exact hF) | refine End.mk ?_ | refine brT ?_ | refine brF ?_ | (refine brT' ?_ ?_; focus with_reducible assumption) | (refine brF' ?_ ?_; focus with_reducible assumption) | (refine brT' ?_ ?_; focus (simp only [beq_self_eq_true, eq_self, and_self, Bool.not_true, Bool.not_false, sameP_refl, decide_true, decide_false, Bool.and_true, Bool.true_and, Bool.or_false, Bool.false_or, not_true_eq_false, not_false_eq_true, hq, e, ia, ib]; done)) | (refine brF' ?_ ?_; focus (simp only [beq_self_eq_true, eq_self, and_self, Bool.not_true, Bool.not_false, sameP_refl, decide_true, decide_false, Bool.and_true, Bool.true_and, Bool.or_false, Bool.false_or, not_true_eq_false, not_false_eq_true, hq, e, ia, ib]; done)) | (refine Br.mk ?_ ?_ <;> (intro hb; have h := hb; (try simp only [decide_eq_true_eq, decide_eq_false_iff_not, Bool.not_eq_true', Bool.not_eq_false', Bool.not_eq_eq_eq_not, Bool.not_true, Bool.not_false, ge_iff_le, gt_iff_lt, Bool.and_eq_true, Bool.and_eq_false_iff, Bool.or_eq_true, Bool.or_eq_false_iff, beq_self_eq_true, not_true_eq_false, and_self, Bool.true_eq_false, Bool.false_eq_true, not_false_eq_true] at h); (try dsimp only [EL.len] at h); (try (exfalso; first | omega | exact bnF h (by with_reducible assumption) | exact bnT h (by with_reducible assumption))))) | (refine fun (y : Int) (h0 : 0 ≤ y) h1 => ?_)))
    all_goals
      (refine Exists.intro _ (And.intro ?_ hK); repeat' (first | (refine Side.mk ?_ ?_; focus (first | with_reducible exact rfl | exact Eq.refl true | exact Eq.refl false)) | (refine Side.mk ?_ ?_) | exact True.intro))
      simp [e, ia, ib]

set_option maxRecDepth 100000 in
set_option maxHeartbeats 2000000 in
theorem law_l_FnQuiet (v : Value) (w : World) (h : CodeB w v) : Calls Try.prog 3 #[v] w fun e w2 => e = .returned (.bool true) ∧ Below w.heap.size w w2 := by
  refine law_ofN (TR := tr_l_FnQuiet) tab_ok mixed_ok env_l_FnQuiet_ok Try.func3 rfl (fun a n c hn => ?_) con_l_FnQuiet v w h
  repeat' ((conv => whnf); (first | (refine Side.mk ?_ ?_; focus (first | omega | kernel_rfl | with_reducible assumption | exact rfl | (with_reducible first | omega | exact rngI (by omega) | (and_intros <;> first | trivial | omega | exact rngI (by omega))) | (dsimp only [EL.len]; with_reducible first | omega | exact rngI (by omega) | (and_intros <;> first | trivial | omega | exact rngI (by omega))) | with_reducible exact rngB (by omega) | with_reducible exact rngI ⟨by decide, by decide⟩ | exact ⟨rfl, trivial⟩ | exact ⟨rfl, rfl, trivial⟩ | exact ⟨⟨rfl, rfl, rfl, rfl⟩, trivial⟩ | (show (_ : Int) ≤ _ ∧ (_ : Int) ≤ _; omega) | (show (_ : Int) ≤ _; omega) | (simp only [EL.len, EL.sz, EL.take, EL.drop, maxL, la, ln, lc, ld, lt, ls, lna]; with_reducible first | omega | exact rngI (by omega) | (and_intros <;> first | trivial | omega | exact rngI (by omega))) | (simp only [EL.len, EL.sz, EL.take, EL.drop, maxL, la, ln, lc, ld, lt, ls, lna] at *; with_reducible first | omega | exact rngI (by omega) | (and_intros <;> first | trivial | omega | exact rngI (by omega))))) | (refine End.mk ?_; exact hF) | refine End.mk ?_ | refine brT ?_ | refine brF ?_ | (refine brT' ?_ ?_; focus with_reducible assumption) | (refine brF' ?_ ?_; focus with_reducible assumption) | (refine Br.mk ?_ ?_ <;> (intro hb; have h := hb; (try simp only [decide_eq_true_eq, decide_eq_false_iff_not, Bool.not_eq_true', Bool.not_eq_false', Bool.not_eq_eq_eq_not, Bool.not_true, Bool.not_false, ge_iff_le, gt_iff_lt, Bool.and_eq_true, Bool.and_eq_false_iff, Bool.or_eq_true, Bool.or_eq_false_iff, beq_self_eq_true, not_true_eq_false, and_self, Bool.true_eq_false, Bool.false_eq_true, not_false_eq_true] at h); (try dsimp only [EL.len] at h); (try (exfalso; first | omega | exact bnF h (by with_reducible assumption) | exact bnT h (by with_reducible assumption))))) | (refine fun (y : Int) (h0 : 0 ≤ y) h1 => ?_)))
  all_goals first | exact rfl | omega

end Go.Proofs.Ytonibbcmgiflbaa
