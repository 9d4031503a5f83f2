/-
  The law FnPortNew, by the abstract walk.
-/
import Derived.Test.YtacjfkodndkaeaaJ0
namespace Go.Proofs.Ytacjfkodndkaeaa
open Go.RowKit
open Ab
set_option linter.unusedSimpArgs false
set_option linter.unusedVariables false

def env_l_FnPortNew : Env := [(12, c_s_DrawPortNew), (13, c_i_PortNew), (14, c_s_PortNew), (15, c_l_samePort), (16, c_i_PortRead), (17, c_i_PortValid), (18, c_i_PortIrq)]
theorem env_l_FnPortNew_ok : EnvOk Try.prog env_l_FnPortNew := envAll_ok ⟨c_s_DrawPortNew_ok, c_i_PortNew_ok, c_s_PortNew_ok, c_l_samePort_ok, c_i_PortRead_ok, c_i_PortValid_ok, c_i_PortIrq_ok, trivial⟩
def tr_l_FnPortNew : Nat → Tr := fun n => match n with
  | _ => .nil
set_option maxRecDepth 100000 in
set_option maxHeartbeats 2000000 in
theorem con_l_FnPortNew : Con Try.prog 3 [.inl .bytes] (fun _ K => K (.l (.v (.bool true)))) := by
  refine con_ofN (TR := tr_l_FnPortNew) tab_ok mixed_ok env_l_FnPortNew_ok Try.func3 rfl ?_
  rintro ⟨(c : List UInt8), _⟩ K hK ⟨hl, _⟩
  replace hl : c.length ≤ 1099511627776 := hl
  repeat' ((conv => whnf); (first | (refine Side.mk ?_ ?_; focus (first | omega | kernel_rfl | with_reducible assumption | exact rfl | (with_reducible first | omega | exact rngI (by omega) | (and_intros <;> first | trivial | omega | exact rngI (by omega))) | (dsimp only [EL.len]; with_reducible first | omega | exact rngI (by omega) | (and_intros <;> first | trivial | omega | exact rngI (by omega))) | with_reducible exact rngB (by omega) | with_reducible exact rngI ⟨by decide, by decide⟩ | exact ⟨rfl, trivial⟩ | exact ⟨rfl, rfl, trivial⟩ | exact ⟨⟨rfl, rfl, rfl, rfl⟩, trivial⟩ | (simp only [EL.len, EL.sz, EL.take, EL.drop, maxL, la, ln, lc, ld, lt, ls, lna]; with_reducible first | omega | exact rngI (by omega) | (and_intros <;> first | trivial | omega | exact rngI (by omega))) | (simp only [EL.len, EL.sz, EL.take, EL.drop, maxL, la, ln, lc, ld, lt, ls, lna] at *; with_reducible first | omega | exact rngI (by omega) | (and_intros <;> first | trivial | omega | exact rngI (by omega))) | (show (_ : Int) ≤ _ ∧ (_ : Int) ≤ _; omega) | (show (_ : Int) ≤ _; omega))) | (refine End.mk ?_; exact hF) | refine End.mk ?_ | refine brT ?_ | refine brF ?_ | (refine brT' ?_ ?_; focus with_reducible assumption) | (refine brF' ?_ ?_; focus with_reducible assumption) | (refine Br.mk ?_ ?_ <;> (intro hb; have h := hb; (try simp only [decide_eq_true_eq, decide_eq_false_iff_not, Bool.not_eq_true', Bool.not_eq_false', Bool.not_eq_eq_eq_not, Bool.not_true, Bool.not_false, ge_iff_le, gt_iff_lt, Bool.and_eq_true, Bool.and_eq_false_iff, Bool.or_eq_true, Bool.or_eq_false_iff, beq_self_eq_true, not_true_eq_false, and_self, Bool.true_eq_false, Bool.false_eq_true, not_false_eq_true] at h); (try dsimp only [EL.len] at h); (try (exfalso; first | omega | exact bnF h (by with_reducible assumption) | exact bnT h (by with_reducible assumption))))) | (refine fun (y : Int) (h0 : 0 ≤ y) h1 => ?_)))
  · (refine Exists.intro _ (And.intro ?_ hK); repeat' (first | (refine Side.mk ?_ ?_; focus (first | with_reducible exact rfl | exact Eq.refl true | exact Eq.refl false)) | (refine Side.mk ?_ ?_) | exact True.intro))
  intro r t
  cases hv : prtV (pnewP r t) with
  | false =>
    have e : pnewR r t = ⟨prt0, false⟩ := by simp [pnewR, hv]
    have z1 : (pnewR r t).p.rc.items.length ≤ 100 := by rw [e]; exact Nat.zero_le _
    have z2 : (pnewR r t).p.sd.items.length ≤ 100 := by rw [e]; exact Nat.zero_le _
    repeat' ((conv => whnf); (first | (refine Side.mk ?_ ?_; focus (first | omega | kernel_rfl | with_reducible assumption | exact rfl | (with_reducible first | omega | exact rngI (by omega) | (and_intros <;> first | trivial | omega | exact rngI (by omega))) | (dsimp only [EL.len]; with_reducible first | omega | exact rngI (by omega) | (and_intros <;> first | trivial | omega | exact rngI (by omega))) | with_reducible exact rngB (by omega) | with_reducible exact rngI ⟨by decide, by decide⟩ | exact ⟨rfl, trivial⟩ | exact ⟨rfl, rfl, trivial⟩ | exact ⟨⟨rfl, rfl, rfl, rfl⟩, trivial⟩ | (simp only [EL.len, EL.sz, EL.take, EL.drop, maxL, la, ln, lc, ld, lt, ls, lna]; with_reducible first | omega | exact rngI (by omega) | (and_intros <;> first | trivial | omega | exact rngI (by omega))) | (simp only [EL.len, EL.sz, EL.take, EL.drop, maxL, la, ln, lc, ld, lt, ls, lna] at *; with_reducible first | omega | exact rngI (by omega) | (and_intros <;> first | trivial | omega | exact rngI (by omega))) | (show (_ : Int) ≤ _ ∧ (_ : Int) ≤ _; omega) | (show (_ : Int) ≤ _; omega))) | (refine End.mk ?_; exact hF) | refine End.mk ?_ | refine brT ?_ | refine brF ?_ | (refine brT' ?_ ?_; focus with_reducible assumption) | (refine brF' ?_ ?_; focus with_reducible assumption) | (refine brT' ?_ ?_; focus (simp only [beq_self_eq_true, eq_self, and_self, Bool.not_true, Bool.not_false, sameP_refl, decide_true, decide_false, Bool.and_true, Bool.true_and, Bool.or_false, Bool.false_or, not_true_eq_false, not_false_eq_true, e]; done)) | (refine brF' ?_ ?_; focus (simp only [beq_self_eq_true, eq_self, and_self, Bool.not_true, Bool.not_false, sameP_refl, decide_true, decide_false, Bool.and_true, Bool.true_and, Bool.or_false, Bool.false_or, not_true_eq_false, not_false_eq_true, e]; done)) | (refine Br.mk ?_ ?_ <;> (intro hb; have h := hb; (try simp only [decide_eq_true_eq, decide_eq_false_iff_not, Bool.not_eq_true', Bool.not_eq_false', Bool.not_eq_eq_eq_not, Bool.not_true, Bool.not_false, ge_iff_le, gt_iff_lt, Bool.and_eq_true, Bool.and_eq_false_iff, Bool.or_eq_true, Bool.or_eq_false_iff, beq_self_eq_true, not_true_eq_false, and_self, Bool.true_eq_false, Bool.false_eq_true, not_false_eq_true] at h); (try dsimp only [EL.len] at h); (try (exfalso; first | omega | exact bnF h (by with_reducible assumption) | exact bnT h (by with_reducible assumption))))) | (refine fun (y : Int) (h0 : 0 ≤ y) h1 => ?_)))
    all_goals
      (refine Exists.intro _ (And.intro ?_ hK); repeat' (first | (refine Side.mk ?_ ?_; focus (first | with_reducible exact rfl | exact Eq.refl true | exact Eq.refl false)) | (refine Side.mk ?_ ?_) | exact True.intro))
      simp [e, sameP_refl]
  | true =>
    have e : pnewR r t = ⟨pnewP r t, true⟩ := by simp [pnewR, hv]
    have z1 : (pnewR r t).p.rc.items.length ≤ 100 := by rw [e]; exact Nat.zero_le _
    have z2 : (pnewR r t).p.sd.items.length ≤ 100 := by rw [e]; exact Nat.zero_le _
    obtain ⟨v1, v2, v3, v4, v5⟩ := prtV_bd hv
    have es : pstatN (pnewP r t) = 96 := by
      simp only [pstatN, rstatN, statN, v4, v5, if_true]
      rfl
    have e5 : preadR ⟨⟨8, 0, 1⟩, 0, 0, ⟨r, t, [], false, 0⟩, ⟨r, [], -1, 0⟩, ⟨false, false, false, false⟩⟩ 5 = ⟨pstatP (pnewP r t), 96, true⟩ := by
      have h := pread5 hv
      rw [es] at h
      exact h
    have ei : pirqN ⟨⟨8, 0, 1⟩, 0, 0, ⟨r, t, [], false, 0⟩, ⟨r, [], -1, 0⟩, ⟨false, false, false, false⟩⟩ = 1 := by
      show pirqN (pnewP r t) = 1
      simp only [pirqN, hv, if_true, es, irqN]
      simp [pnewP, readyN]
    replace hv : prtV ⟨⟨8, 0, 1⟩, 0, 0, ⟨r, t, [], false, 0⟩, ⟨r, [], -1, 0⟩, ⟨false, false, false, false⟩⟩ = true := hv
    repeat' ((conv => whnf); (first | (refine Side.mk ?_ ?_; focus (first | omega | kernel_rfl | with_reducible assumption | exact rfl | (with_reducible first | omega | exact rngI (by omega) | (and_intros <;> first | trivial | omega | exact rngI (by omega))) | (dsimp only [EL.len]; with_reducible first | omega | exact rngI (by omega) | (and_intros <;> first | trivial | omega | exact rngI (by omega))) | with_reducible exact rngB (by omega) | with_reducible exact rngI ⟨by decide, by decide⟩ | exact ⟨rfl, trivial⟩ | exact ⟨rfl, rfl, trivial⟩ | exact ⟨⟨rfl, rfl, rfl, rfl⟩, trivial⟩ | (simp only [EL.len, EL.sz, EL.take, EL.drop, maxL, la, ln, lc, ld, lt, ls, lna]; with_reducible first | omega | exact rngI (by omega) | (and_intros <;> first | trivial | omega | exact rngI (by omega))) | (simp only [EL.len, EL.sz, EL.take, EL.drop, maxL, la, ln, lc, ld, lt, ls, lna] at *; with_reducible first | omega | exact rngI (by omega) | (and_intros <;> first | trivial | omega | exact rngI (by omega))) | (show (_ : Int) ≤ _ ∧ (_ : Int) ≤ _; omega) | (show (_ : Int) ≤ _; omega))) | (refine End.mk ?_; exact hF) | refine End.mk ?_ | refine brT ?_ | refine brF ?_ | (refine brT' ?_ ?_; focus with_reducible assumption) | (refine brF' ?_ ?_; focus with_reducible assumption) | (refine brT' ?_ ?_; focus (simp only [beq_self_eq_true, eq_self, and_self, Bool.not_true, Bool.not_false, sameP_refl, decide_true, decide_false, Bool.and_true, Bool.true_and, Bool.or_false, Bool.false_or, not_true_eq_false, not_false_eq_true, e, e5, ei, hv, pnewP, mdm0]; done)) | (refine brF' ?_ ?_; focus (simp only [beq_self_eq_true, eq_self, and_self, Bool.not_true, Bool.not_false, sameP_refl, decide_true, decide_false, Bool.and_true, Bool.true_and, Bool.or_false, Bool.false_or, not_true_eq_false, not_false_eq_true, e, e5, ei, hv, pnewP, mdm0]; done)) | (refine Br.mk ?_ ?_ <;> (intro hb; have h := hb; (try simp only [decide_eq_true_eq, decide_eq_false_iff_not, Bool.not_eq_true', Bool.not_eq_false', Bool.not_eq_eq_eq_not, Bool.not_true, Bool.not_false, ge_iff_le, gt_iff_lt, Bool.and_eq_true, Bool.and_eq_false_iff, Bool.or_eq_true, Bool.or_eq_false_iff, beq_self_eq_true, not_true_eq_false, and_self, Bool.true_eq_false, Bool.false_eq_true, not_false_eq_true] at h); (try dsimp only [EL.len] at h); (try (exfalso; first | omega | exact bnF h (by with_reducible assumption) | exact bnT h (by with_reducible assumption))))) | (refine fun (y : Int) (h0 : 0 ≤ y) h1 => ?_)))
    all_goals
      (refine Exists.intro _ (And.intro ?_ hK); repeat' (first | (refine Side.mk ?_ ?_; focus (first | with_reducible exact rfl | exact Eq.refl true | exact Eq.refl false)) | (refine Side.mk ?_ ?_) | exact True.intro))
      simp [e, e5, ei, hv, pnewP, mdm0]

set_option maxRecDepth 100000 in
set_option maxHeartbeats 2000000 in
theorem law_l_FnPortNew (v : Value) (w : World) (h : CodeB w v) : Calls Try.prog 3 #[v] w fun e w2 => e = .returned (.bool true) ∧ Below w.heap.size w w2 := by
  refine law_ofN (TR := tr_l_FnPortNew) tab_ok mixed_ok env_l_FnPortNew_ok Try.func3 rfl (fun a n c hn => ?_) con_l_FnPortNew v w h
  repeat' ((conv => whnf); (first | (refine Side.mk ?_ ?_; focus (first | omega | kernel_rfl | with_reducible assumption | exact rfl | (with_reducible first | omega | exact rngI (by omega) | (and_intros <;> first | trivial | omega | exact rngI (by omega))) | (dsimp only [EL.len]; with_reducible first | omega | exact rngI (by omega) | (and_intros <;> first | trivial | omega | exact rngI (by omega))) | with_reducible exact rngB (by omega) | with_reducible exact rngI ⟨by decide, by decide⟩ | exact ⟨rfl, trivial⟩ | exact ⟨rfl, rfl, trivial⟩ | exact ⟨⟨rfl, rfl, rfl, rfl⟩, trivial⟩ | (simp only [EL.len, EL.sz, EL.take, EL.drop, maxL, la, ln, lc, ld, lt, ls, lna]; with_reducible first | omega | exact rngI (by omega) | (and_intros <;> first | trivial | omega | exact rngI (by omega))) | (simp only [EL.len, EL.sz, EL.take, EL.drop, maxL, la, ln, lc, ld, lt, ls, lna] at *; with_reducible first | omega | exact rngI (by omega) | (and_intros <;> first | trivial | omega | exact rngI (by omega))) | (show (_ : Int) ≤ _ ∧ (_ : Int) ≤ _; omega) | (show (_ : Int) ≤ _; omega))) | (refine End.mk ?_; exact hF) | refine End.mk ?_ | refine brT ?_ | refine brF ?_ | (refine brT' ?_ ?_; focus with_reducible assumption) | (refine brF' ?_ ?_; focus with_reducible assumption) | (refine Br.mk ?_ ?_ <;> (intro hb; have h := hb; (try simp only [decide_eq_true_eq, decide_eq_false_iff_not, Bool.not_eq_true', Bool.not_eq_false', Bool.not_eq_eq_eq_not, Bool.not_true, Bool.not_false, ge_iff_le, gt_iff_lt, Bool.and_eq_true, Bool.and_eq_false_iff, Bool.or_eq_true, Bool.or_eq_false_iff, beq_self_eq_true, not_true_eq_false, and_self, Bool.true_eq_false, Bool.false_eq_true, not_false_eq_true] at h); (try dsimp only [EL.len] at h); (try (exfalso; first | omega | exact bnF h (by with_reducible assumption) | exact bnT h (by with_reducible assumption))))) | (refine fun (y : Int) (h0 : 0 ≤ y) h1 => ?_)))
  all_goals first | exact rfl | omega

end Go.Proofs.Ytacjfkodndkaeaa
