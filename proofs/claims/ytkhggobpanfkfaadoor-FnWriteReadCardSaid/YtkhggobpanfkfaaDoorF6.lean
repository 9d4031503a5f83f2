/-
  What is written is read, in plain Lean; drawn writes.
-/
import Derived.Test.YtkhggobpanfkfaaDoorF5
import Derived.Test.YtkhggobpanfkfaaDoorP5
namespace Go.Proofs.YtkhggobpanfkfaaDoor
open Go.RowKit
open Ab
set_option linter.unusedSimpArgs false
set_option linter.unusedVariables false

theorem pwrite_bad {p : Prt} {g b : Int} (h : (pwriteR p g b).ok = false) : pwriteR p g b = ⟨prt0, false⟩ := by
  revert h
  unfold pwriteR
  repeat' split
  all_goals simp
theorem pwrite_len (p : Prt) (g b : Int) : (pwriteR p g b).p.rc.items.length ≤ p.rc.items.length ∧ (pwriteR p g b).p.sd.items.length ≤ p.sd.items.length + 1 := by
  unfold pwriteR
  repeat' split
  all_goals first
    | exact ⟨Nat.le_refl _, Nat.le_succ _⟩
    | exact ⟨Nat.zero_le _, Nat.zero_le _⟩
    | (refine ⟨Nat.le_refl _, ?_⟩; simp)
theorem pwrite_read {p : Prt} {g b : Int} (h : (pwriteR p g b).ok = true) (hg : g ≠ 0) : (preadR (pwriteR p g b).p g).ok = true ∧ (preadR (pwriteR p g b).p g).n = b := by
  have hv : prtV p = true := by
    cases hv : prtV p with
    | true => rfl
    | false => simp [pwriteR, hv] at h
  obtain ⟨p1, p2, p3, p4, p5⟩ := prtV_bd hv
  by_cases g1 : g = 1
  · subst g1
    by_cases hc : 0 ≤ b ∧ b ≤ 15
    · have e : pwriteR p 1 b = ⟨⟨p.f, b, p.co, p.rc, p.sd, p.md⟩, true⟩ := by simp [pwriteR, hv, hc.1, hc.2]
      have q : prtV ⟨p.f, b, p.co, p.rc, p.sd, p.md⟩ = true := prtV_yes p1 hc p3 p4 p5
      rw [e]
      simp [preadR, q]
    · simp [pwriteR, hv, hc] at h
  by_cases g3 : g = 3
  · subst g3
    by_cases hc : fofB b = true
    · have e : pwriteR p 3 b = ⟨⟨fofF b, p.en, p.co, p.rc, p.sd, p.md⟩, true⟩ := by simp [pwriteR, hv, hc]
      have q : prtV ⟨fofF b, p.en, p.co, p.rc, p.sd, p.md⟩ = true := prtV_yes (fof_valid hc) p2 p3 p4 p5
      rw [e]
      simp [preadR, q, fof_by hc]
    · simp [pwriteR, hv, hc] at h
  by_cases g4 : g = 4
  · subst g4
    by_cases hc : 0 ≤ b ∧ b ≤ 3
    · have e : pwriteR p 4 b = ⟨⟨p.f, p.en, b, p.rc, p.sd, p.md⟩, true⟩ := by simp [pwriteR, hv, hc.1, hc.2]
      have q : prtV ⟨p.f, p.en, b, p.rc, p.sd, p.md⟩ = true := prtV_yes p1 p2 hc p4 p5
      rw [e]
      simp [preadR, q]
    · simp [pwriteR, hv, hc] at h
  simp [pwriteR, hv, hg, g1, g3, g4] at h

def env_s_DrawPortWrite : Env := [(37, c_s_l6Open), (38, c_s_l92Port), (39, c_s_l6Rd_pick)]
theorem env_s_DrawPortWrite_ok : EnvOk Tryd.prog env_s_DrawPortWrite := envAll_ok ⟨c_s_l6Open_ok, c_s_l92Port_ok, c_s_l6Rd_pick_ok, trivial⟩
def tr_s_DrawPortWrite : Nat → Tr := fun n => match n with
  | 5 => .op 0 0 (.op 1 1 (.op 2 1 (.op 3 0 (.op 4 1 (.op 5 1 (.op 6 2 (.nil)))))))
  | 7 => .op 0 0 (.op 1 1 (.op 2 1 (.op 3 0 (.op 4 1 (.op 5 1 (.op 6 2 (.nil)))))))
  | 9 => .op 0 0 (.op 1 1 (.op 2 1 (.op 3 0 (.op 4 1 (.op 5 1 (.op 6 2 (.nil)))))))
  | 11 => .op 0 0 (.op 1 0 (.op 4 0 (.op 2 1 (.op 3 0 (.op 5 1 (.op 6 1 (.op 7 2 (.op 8 2 (.nil)))))))))
  | 12 => .op 0 0 (.op 1 1 (.op 2 1 (.op 3 2 (.op 4 2 (.op 5 2 (.nil))))))
  | _ => .nil
set_option maxRecDepth 100000 in
set_option maxHeartbeats 2000000 in
theorem con_s_DrawPortWrite : Con Tryd.prog 12 [.inl .bytes] (fun _ K => ∀ (x : Prt) (r v : Int), x.rc.items.length ≤ 100 → x.sd.items.length ≤ 100 → K (.t [.inr (Prt.d x), .inl (.v (.int .i64 r)), .inl (.v (.int .i64 v))])) := by
  refine con_ofW (TR := tr_s_DrawPortWrite) [1] tab_ok mixed_ok env_s_DrawPortWrite_ok Tryd.func12 rfl ?_
  rintro ⟨(c : List UInt8), _⟩ K hK ⟨hl, _⟩
  replace hl : c.length ≤ 1099511627776 := hl
  repeat' ((conv => whnf); (first | (refine Side.mk ?_ ?_; focus (first | omega | with_reducible assumption | kernel_rfl | exact rfl | (with_reducible first | omega | exact rngI (by omega) | (and_intros <;> first | trivial | omega | exact rngI (by omega))) | (dsimp only [EL.len]; with_reducible first | omega | exact rngI (by omega) | (and_intros <;> first | trivial | omega | exact rngI (by omega))) | with_reducible exact rngB (by omega) | with_reducible exact rngI ⟨by decide, by decide⟩ | exact ⟨rfl, trivial⟩ | exact ⟨rfl, rfl, trivial⟩ | exact ⟨⟨rfl, rfl, rfl, rfl⟩, trivial⟩ | (show (_ : Int) ≤ _ ∧ (_ : Int) ≤ _; omega) | (show (_ : Int) ≤ _; omega) | (simp only [EL.len, EL.sz, EL.take, EL.drop, maxL, la, ln, lc, ld, lt, ls, lna]; with_reducible first | omega | exact rngI (by omega) | (and_intros <;> first | trivial | omega | exact rngI (by omega))) | (simp only [EL.len, EL.sz, EL.take, EL.drop, maxL, la, ln, lc, ld, lt, ls, lna] at *; with_reducible first | omega | exact rngI (by omega) | (and_intros <;> first | trivial | omega | exact rngI (by omega))))) | (refine End.mk ?_; exact hF) | refine End.mk ?_ | refine brT ?_ | refine brF ?_ | (refine brT' ?_ ?_; focus with_reducible assumption) | (refine brF' ?_ ?_; focus with_reducible assumption) | (refine Br.mk ?_ ?_ <;> (intro hb; have h := hb; (try simp only [decide_eq_true_eq, decide_eq_false_iff_not, Bool.not_eq_true', Bool.not_eq_false', Bool.not_eq_eq_eq_not, Bool.not_true, Bool.not_false, ge_iff_le, gt_iff_lt, Bool.and_eq_true, Bool.and_eq_false_iff, Bool.or_eq_true, Bool.or_eq_false_iff, beq_self_eq_true, not_true_eq_false, and_self, Bool.true_eq_false, Bool.false_eq_true, not_false_eq_true] at h); (try dsimp only [EL.len] at h); (try (exfalso; first | omega | exact bnF h (by with_reducible assumption) | exact bnT h (by with_reducible assumption))))) | (refine fun (y : Int) (h0 : 0 ≤ y) h1 => ?_)))
  all_goals
    intro x p' g1 g2 g3 g4
    repeat' ((conv => whnf); (first | (refine Side.mk ?_ ?_; focus (first | omega | with_reducible assumption | kernel_rfl | exact rfl | (with_reducible first | omega | exact rngI (by omega) | (and_intros <;> first | trivial | omega | exact rngI (by omega))) | (dsimp only [EL.len]; with_reducible first | omega | exact rngI (by omega) | (and_intros <;> first | trivial | omega | exact rngI (by omega))) | with_reducible exact rngB (by omega) | with_reducible exact rngI ⟨by decide, by decide⟩ | exact ⟨rfl, trivial⟩ | exact ⟨rfl, rfl, trivial⟩ | exact ⟨⟨rfl, rfl, rfl, rfl⟩, trivial⟩ | (show (_ : Int) ≤ _ ∧ (_ : Int) ≤ _; omega) | (show (_ : Int) ≤ _; omega) | (simp only [EL.len, EL.sz, EL.take, EL.drop, maxL, la, ln, lc, ld, lt, ls, lna]; with_reducible first | omega | exact rngI (by omega) | (and_intros <;> first | trivial | omega | exact rngI (by omega))) | (simp only [EL.len, EL.sz, EL.take, EL.drop, maxL, la, ln, lc, ld, lt, ls, lna] at *; with_reducible first | omega | exact rngI (by omega) | (and_intros <;> first | trivial | omega | exact rngI (by omega))))) | (refine End.mk ?_; exact hF) | refine End.mk ?_ | refine brT ?_ | refine brF ?_ | (refine brT' ?_ ?_; focus with_reducible assumption) | (refine brF' ?_ ?_; focus with_reducible assumption) | (refine Br.mk ?_ ?_ <;> (intro hb; have h := hb; (try simp only [decide_eq_true_eq, decide_eq_false_iff_not, Bool.not_eq_true', Bool.not_eq_false', Bool.not_eq_eq_eq_not, Bool.not_true, Bool.not_false, ge_iff_le, gt_iff_lt, Bool.and_eq_true, Bool.and_eq_false_iff, Bool.or_eq_true, Bool.or_eq_false_iff, beq_self_eq_true, not_true_eq_false, and_self, Bool.true_eq_false, Bool.false_eq_true, not_false_eq_true] at h); (try dsimp only [EL.len] at h); (try (exfalso; first | omega | exact bnF h (by with_reducible assumption) | exact bnT h (by with_reducible assumption))))) | (refine fun (y : Int) (h0 : 0 ≤ y) h1 => ?_)))
    all_goals
      refine Exists.intro _ (And.intro ?_ (hK x ?_ ?_ g1 g2))
      repeat' (first | (refine Side.mk ?_ ?_; focus (first | with_reducible exact rfl | exact Eq.refl true | exact Eq.refl false)) | (refine Side.mk ?_ ?_) | exact True.intro)
def c_s_DrawPortWrite : CS := csOf [.inl .bytes] (fun _ K => ∀ (x : Prt) (r v : Int), x.rc.items.length ≤ 100 → x.sd.items.length ≤ 100 → K (.t [.inr (Prt.d x), .inl (.v (.int .i64 r)), .inl (.v (.int .i64 v))]))
theorem c_s_DrawPortWrite_ok : CSok Tryd.prog 12 c_s_DrawPortWrite := cs_ok (by kernel_rfl) con_s_DrawPortWrite

end Go.Proofs.YtkhggobpanfkfaaDoor
