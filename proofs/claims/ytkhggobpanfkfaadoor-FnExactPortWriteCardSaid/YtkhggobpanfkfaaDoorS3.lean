/-
  Senders that are drawn.
-/
import Derived.Test.YtkhggobpanfkfaaDoorS2
import Derived.Test.YtkhggobpanfkfaaDoorG2
namespace Go.Proofs.YtkhggobpanfkfaaDoor
open Go.RowKit
open Ab
set_option linter.unusedSimpArgs false
set_option linter.unusedVariables false

def env_s_l91Send : Env := [(39, c_s_l6Rd_pick)]
theorem env_s_l91Send_ok : EnvOk Tryd.prog env_s_l91Send := envAll_ok ⟨c_s_l6Rd_pick_ok, trivial⟩
def tr_s_l91Send : Nat → Tr := fun n => match n with
  | 6 => .op 0 0 (.op 1 0 (.op 2 1 (.op 3 1 (.op 4 1 (.op 5 1 (.op 6 1 (.op 7 2 (.nil))))))))
  | _ => .nil
set_option maxRecDepth 100000 in
set_option maxHeartbeats 2000000 in
theorem con_s_l91Send : ConB Tryd.prog 73 114 [] (fun p _ K => Side (0 ≤ p ∧ p ≤ 1000000) <| ∀ (r : Int) (l : List Int) (s f p' : Int), l.length ≤ 100 → p ≤ p' → p' ≤ p + 100 → K (.a (Snd.d ⟨r, l, s, f⟩)) p') := by
  refine conB_ofN (TR := tr_s_l91Send) tab_ok mixed_ok env_s_l91Send_ok Tryd.func73 rfl rfl ?_
  rintro v0 l (p : Int) _ K hl ⟨hp, hK⟩
  replace hl : l.length ≤ 1099511627776 := hl
  repeat' ((conv => whnf); (first | (refine Side.mk ?_ ?_; focus (first | omega | with_reducible assumption | kernel_rfl | exact rfl | (with_reducible first | omega | exact rngI (by omega) | (and_intros <;> first | trivial | omega | exact rngI (by omega))) | (dsimp only [EL.len]; with_reducible first | omega | exact rngI (by omega) | (and_intros <;> first | trivial | omega | exact rngI (by omega))) | with_reducible exact rngB (by omega) | with_reducible exact rngI ⟨by decide, by decide⟩ | exact ⟨rfl, trivial⟩ | exact ⟨rfl, rfl, trivial⟩ | exact ⟨⟨rfl, rfl, rfl, rfl⟩, trivial⟩ | (show (_ : Int) ≤ _ ∧ (_ : Int) ≤ _; omega) | (show (_ : Int) ≤ _; omega) | (simp only [EL.len, EL.sz, EL.take, EL.drop, maxL, la, ln, lc, ld, lt, ls, lna]; with_reducible first | omega | exact rngI (by omega) | (and_intros <;> first | trivial | omega | exact rngI (by omega))) | (simp only [EL.len, EL.sz, EL.take, EL.drop, maxL, la, ln, lc, ld, lt, ls, lna] at *; with_reducible first | omega | exact rngI (by omega) | (and_intros <;> first | trivial | omega | exact rngI (by omega))))) | (refine End.mk ?_; exact hF) | refine End.mk ?_ | refine brT ?_ | refine brF ?_ | (refine brT' ?_ ?_; focus with_reducible assumption) | (refine brF' ?_ ?_; focus with_reducible assumption) | (refine Br.mk ?_ ?_ <;> (intro hb; have h := hb; (try simp only [decide_eq_true_eq, decide_eq_false_iff_not, Bool.not_eq_true', Bool.not_eq_false', Bool.not_eq_eq_eq_not, Bool.not_true, Bool.not_false, ge_iff_le, gt_iff_lt, Bool.and_eq_true, Bool.and_eq_false_iff, Bool.or_eq_true, Bool.or_eq_false_iff, beq_self_eq_true, not_true_eq_false, and_self, Bool.true_eq_false, Bool.false_eq_true, not_false_eq_true] at h); (try dsimp only [EL.len] at h); (try (exfalso; first | omega | exact bnF h (by with_reducible assumption) | exact bnT h (by with_reducible assumption))))) | (refine fun (y : Int) (h0 : 0 ≤ y) h1 => ?_)))
  rename_i y1 h1a h1b
  have h2 : y ≤ 7 := by omega
  repeat' ((conv => whnf); (first | (refine Side.mk ?_ ?_; focus (first | omega | with_reducible assumption | kernel_rfl | exact rfl | (with_reducible first | omega | exact rngI (by omega) | (and_intros <;> first | trivial | omega | exact rngI (by omega))) | (dsimp only [EL.len]; with_reducible first | omega | exact rngI (by omega) | (and_intros <;> first | trivial | omega | exact rngI (by omega))) | with_reducible exact rngB (by omega) | with_reducible exact rngI ⟨by decide, by decide⟩ | exact ⟨rfl, trivial⟩ | exact ⟨rfl, rfl, trivial⟩ | exact ⟨⟨rfl, rfl, rfl, rfl⟩, trivial⟩ | (show (_ : Int) ≤ _ ∧ (_ : Int) ≤ _; omega) | (show (_ : Int) ≤ _; omega) | (simp only [EL.len, EL.sz, EL.take, EL.drop, maxL, la, ln, lc, ld, lt, ls, lna]; with_reducible first | omega | exact rngI (by omega) | (and_intros <;> first | trivial | omega | exact rngI (by omega))) | (simp only [EL.len, EL.sz, EL.take, EL.drop, maxL, la, ln, lc, ld, lt, ls, lna] at *; with_reducible first | omega | exact rngI (by omega) | (and_intros <;> first | trivial | omega | exact rngI (by omega))))) | (refine End.mk ?_; exact hF) | refine End.mk ?_ | refine brT ?_ | refine brF ?_ | (refine brT' ?_ ?_; focus with_reducible assumption) | (refine brF' ?_ ?_; focus with_reducible assumption) | (refine Br.mk ?_ ?_ <;> (intro hb; have h := hb; (try simp only [decide_eq_true_eq, decide_eq_false_iff_not, Bool.not_eq_true', Bool.not_eq_false', Bool.not_eq_eq_eq_not, Bool.not_true, Bool.not_false, ge_iff_le, gt_iff_lt, Bool.and_eq_true, Bool.and_eq_false_iff, Bool.or_eq_true, Bool.or_eq_false_iff, beq_self_eq_true, not_true_eq_false, and_self, Bool.true_eq_false, Bool.false_eq_true, not_false_eq_true] at h); (try dsimp only [EL.len] at h); (try (exfalso; first | omega | exact bnF h (by with_reducible assumption) | exact bnT h (by with_reducible assumption))))) | (refine fun (y : Int) (h0 : 0 ≤ y) h1 => ?_)))
  refine LoopG.inv {t : Nat × List Int × Int // (t.1 : Int) ≤ y ∧ t.2.1.length = t.1 ∧ p + 2 ≤ t.2.2 ∧ t.2.2 ≤ p + 2 + t.1} (fun ⟨(k, _, _), _⟩ => [(5, .l (.v (.int .i64 k))), (9, .j), (10, .j)]) (fun ⟨(_, il, p'), _⟩ => [(0, .b [.fx v0 (.bytes l), .v (.int .i64 p')] 114), (2, .r 0 3 (.ints il))]) (fun ⟨(k, _, _), _⟩ => y.toNat - k) ⟨(0, [], p + 1 + 1), (show ((0 : Nat) : Int) ≤ y by omega), rfl, (show p + 2 ≤ p + 1 + 1 by omega), (show p + 1 + 1 ≤ p + 2 + ((0 : Nat) : Int) by omega)⟩ [0, 1, 2, 3] ?_ ?_
  · repeat' (first | (refine Side.mk ?_ ?_; focus (first | kernel_rfl | exact rfl | exact ⟨rfl, trivial⟩ | exact fun _ h => h | exact ⟨⟨rfl, rfl, rfl, rfl⟩, trivial⟩ | exact ⟨⟨rfl, rfl⟩, rfl, rfl⟩ | exact ⟨rfl, rfl, trivial⟩)) | exact True.intro)
  rintro ⟨⟨k, il, p'⟩, hk1, hk2, hk3, hk4⟩
  have gk1 : (k : Int) ≤ y := hk1
  have gk2 : il.length = k := hk2
  have gk3 : p + 2 ≤ p' := hk3
  have gk4 : p' ≤ p + 2 + k := hk4

  repeat' ((conv => whnf); (first | (refine Side.mk ?_ ?_; focus (first | omega | with_reducible assumption | kernel_rfl | exact rfl | (with_reducible first | omega | exact rngI (by omega) | (and_intros <;> first | trivial | omega | exact rngI (by omega))) | (dsimp only [EL.len]; with_reducible first | omega | exact rngI (by omega) | (and_intros <;> first | trivial | omega | exact rngI (by omega))) | with_reducible exact rngB (by omega) | with_reducible exact rngI ⟨by decide, by decide⟩ | exact ⟨rfl, trivial⟩ | exact ⟨rfl, rfl, trivial⟩ | exact ⟨⟨rfl, rfl, rfl, rfl⟩, trivial⟩ | (show (_ : Int) ≤ _ ∧ (_ : Int) ≤ _; omega) | (show (_ : Int) ≤ _; omega) | (simp only [EL.len, EL.sz, EL.take, EL.drop, maxL, la, ln, lc, ld, lt, ls, lna]; with_reducible first | omega | exact rngI (by omega) | (and_intros <;> first | trivial | omega | exact rngI (by omega))) | (simp only [EL.len, EL.sz, EL.take, EL.drop, maxL, la, ln, lc, ld, lt, ls, lna] at *; with_reducible first | omega | exact rngI (by omega) | (and_intros <;> first | trivial | omega | exact rngI (by omega))))) | (refine End.mk ?_; exact hF) | refine End.mk ?_ | refine brT ?_ | refine brF ?_ | (refine brT' ?_ ?_; focus with_reducible assumption) | (refine brF' ?_ ?_; focus with_reducible assumption) | (refine Br.mk ?_ ?_ <;> (intro hb; have h := hb; (try simp only [decide_eq_true_eq, decide_eq_false_iff_not, Bool.not_eq_true', Bool.not_eq_false', Bool.not_eq_eq_eq_not, Bool.not_true, Bool.not_false, ge_iff_le, gt_iff_lt, Bool.and_eq_true, Bool.and_eq_false_iff, Bool.or_eq_true, Bool.or_eq_false_iff, beq_self_eq_true, not_true_eq_false, and_self, Bool.true_eq_false, Bool.false_eq_true, not_false_eq_true] at h); (try dsimp only [EL.len] at h); (try (exfalso; first | omega | exact bnF h (by with_reducible assumption) | exact bnT h (by with_reducible assumption))))) | (refine fun (y : Int) (h0 : 0 ≤ y) h1 => ?_)))
  · have e1 : ((k + 1 : Nat) : Int) ≤ _ := h
    have e2 : (il ++ [y]).length = k + 1 := by rw [List.length_append, gk2]; rfl
    (refine Exists.intro ⟨(k + 1, il ++ [y], p' + 1), e1, e2, (show p + 2 ≤ p' + 1 by omega), (show p' + 1 ≤ p + 2 + ((k + 1 : Nat) : Int) by omega)⟩ (Exists.intro [0, 1, 2, 3] (And.intro ?_ ?_)))
    · show Int.toNat _ - (k + 1) < Int.toNat _ - k
      omega
    · repeat' (first | (refine Side.mk ?_ ?_; focus (first | kernel_rfl | exact rfl | exact ⟨rfl, trivial⟩ | exact fun _ h => h | exact ⟨⟨rfl, rfl, rfl, rfl⟩, trivial⟩ | exact ⟨⟨rfl, rfl⟩, rfl, rfl⟩ | exact ⟨rfl, rfl, trivial⟩)) | exact True.intro)
  all_goals
    refine Exists.intro _ (Exists.intro _ (And.intro ?_ (hK ?_ il ?_ ?_ ?_ (by omega) ?_ ?_)))
    · repeat' (first | (refine Side.mk ?_ ?_; focus (first | with_reducible exact rfl | exact Eq.refl true | exact Eq.refl false)) | (refine Side.mk ?_ ?_) | exact True.intro)
    all_goals omega
def c_s_l91Send : CS := csB 114 [] (fun p _ K => Side (0 ≤ p ∧ p ≤ 1000000) <| ∀ (r : Int) (l : List Int) (s f p' : Int), l.length ≤ 100 → p ≤ p' → p' ≤ p + 100 → K (.a (Snd.d ⟨r, l, s, f⟩)) p')
theorem c_s_l91Send_ok : CSok Tryd.prog 73 c_s_l91Send := csB_ok (by kernel_rfl) con_s_l91Send

def env_l_sameSend : Env := [(76, c_l_sameInts)]
theorem env_l_sameSend_ok : EnvOk Tryd.prog env_l_sameSend := envAll_ok ⟨c_l_sameInts_ok, trivial⟩
def tr_l_sameSend : Nat → Tr := fun n => match n with
  | _ => .nil
set_option maxRecDepth 100000 in
set_option maxHeartbeats 2000000 in
theorem con_l_sameSend : Con Tryd.prog 41 [.inr [.int, .ints, .int, .int], .inr [.int, .ints, .int, .int]] (fun ⟨⟨r, l, s, f, _⟩, ⟨r2, l2, s2, f2, _⟩, _⟩ K => K (.l (.v (.bool (decide (r = r2 ∧ s = s2 ∧ f = f2 ∧ l = l2)))))) := by
  refine con_ofN (TR := tr_l_sameSend) tab_ok mixed_ok env_l_sameSend_ok Tryd.func41 rfl ?_
  rintro ⟨⟨(r : Int), (l : List Int), (s : Int), (f : Int), _⟩, ⟨(r2 : Int), (l2 : List Int), (s2 : Int), (f2 : Int), _⟩, _⟩ K hK _
  replace hK : K (.l (.v (.bool (decide (r = r2 ∧ s = s2 ∧ f = f2 ∧ l = l2))))) := hK
  repeat' ((conv => whnf); (first | (refine Side.mk ?_ ?_; focus (first | omega | with_reducible assumption | kernel_rfl | exact rfl | (with_reducible first | omega | exact rngI (by omega) | (and_intros <;> first | trivial | omega | exact rngI (by omega))) | (dsimp only [EL.len]; with_reducible first | omega | exact rngI (by omega) | (and_intros <;> first | trivial | omega | exact rngI (by omega))) | with_reducible exact rngB (by omega) | with_reducible exact rngI ⟨by decide, by decide⟩ | exact ⟨rfl, trivial⟩ | exact ⟨rfl, rfl, trivial⟩ | exact ⟨⟨rfl, rfl, rfl, rfl⟩, trivial⟩ | (show (_ : Int) ≤ _ ∧ (_ : Int) ≤ _; omega) | (show (_ : Int) ≤ _; omega) | (simp only [EL.len, EL.sz, EL.take, EL.drop, maxL, la, ln, lc, ld, lt, ls, lna]; with_reducible first | omega | exact rngI (by omega) | (and_intros <;> first | trivial | omega | exact rngI (by omega))) | (simp only [EL.len, EL.sz, EL.take, EL.drop, maxL, la, ln, lc, ld, lt, ls, lna] at *; with_reducible first | omega | exact rngI (by omega) | (and_intros <;> first | trivial | omega | exact rngI (by omega))))) | (refine End.mk ?_; exact hF) | refine End.mk ?_ | refine brT ?_ | refine brF ?_ | (refine brT' ?_ ?_; focus with_reducible assumption) | (refine brF' ?_ ?_; focus with_reducible assumption) | (refine Br.mk ?_ ?_ <;> (intro hb; have h := hb; (try simp only [decide_eq_true_eq, decide_eq_false_iff_not, Bool.not_eq_true', Bool.not_eq_false', Bool.not_eq_eq_eq_not, Bool.not_true, Bool.not_false, ge_iff_le, gt_iff_lt, Bool.and_eq_true, Bool.and_eq_false_iff, Bool.or_eq_true, Bool.or_eq_false_iff, beq_self_eq_true, not_true_eq_false, and_self, Bool.true_eq_false, Bool.false_eq_true, not_false_eq_true] at h); (try dsimp only [EL.len] at h); (try (exfalso; first | omega | exact bnF h (by with_reducible assumption) | exact bnT h (by with_reducible assumption))))) | (refine fun (y : Int) (h0 : 0 ≤ y) h1 => ?_)))
  all_goals
    (refine Exists.intro _ (And.intro ?_ hK); repeat' (first | (refine Side.mk ?_ ?_; focus (first | with_reducible exact rfl | exact Eq.refl true | exact Eq.refl false)) | (refine Side.mk ?_ ?_) | exact True.intro))
    simp_all
def c_l_sameSend : CS := csOf [.inr [.int, .ints, .int, .int], .inr [.int, .ints, .int, .int]] (fun ⟨⟨r, l, s, f, _⟩, ⟨r2, l2, s2, f2, _⟩, _⟩ K => K (.l (.v (.bool (decide (r = r2 ∧ s = s2 ∧ f = f2 ∧ l = l2))))))
theorem c_l_sameSend_ok : CSok Tryd.prog 41 c_l_sameSend := cs_ok (by kernel_rfl) con_l_sameSend

end Go.Proofs.YtkhggobpanfkfaaDoor
