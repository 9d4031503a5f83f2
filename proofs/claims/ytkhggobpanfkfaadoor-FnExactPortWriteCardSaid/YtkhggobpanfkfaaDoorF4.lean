/-
  FormatOf, PortWrite of both; by the abstract walk.
-/
import Derived.Test.YtkhggobpanfkfaaDoorF3
import Derived.Test.YtkhggobpanfkfaaDoorD3
import Derived.Test.YtkhggobpanfkfaaDoorI4
namespace Go.Proofs.YtkhggobpanfkfaaDoor
open Go.RowKit
open Ab
set_option linter.unusedSimpArgs false
set_option linter.unusedVariables false

def fofB (b : Int) : Bool := decide ((0 ≤ b ∧ b ≤ 15) ∨ (24 ≤ b ∧ b ≤ 31))
def fofF (b : Int) : Fmt := ⟨(fofV b).bits, (fofV b).par, (fofV b).stop⟩
structure FofR where
  f : Fmt
  ok : Bool
def fofR (b : Int) : FofR := if fofB b = true then ⟨fofF b, true⟩ else ⟨fmt0, false⟩
def FofR.d (x : FofR) : DV := .t [.inr x.f.d, .inl (.v (.bool x.ok))]
theorem fof_valid {b : Int} (h : fofB b = true) : fmtV (fofF b) = true := by
  simp only [fofB, decide_eq_true_eq] at h
  have hc : b / 8 = 0 ∨ b / 8 = 1 ∨ b / 8 = 3 := by omega
  rcases hc with hc | hc | hc
  all_goals
    simp [fmtV, fofF, fofV, hc]
    omega
theorem fof_by {b : Int} (h : fofB b = true) : fbyN (fofF b) = b := by
  rw [fbyN, if_pos (fof_valid h)]
  simp only [fofB, decide_eq_true_eq] at h
  have hc : b / 8 = 0 ∨ b / 8 = 1 ∨ b / 8 = 3 := by omega
  rcases hc with hc | hc | hc
  all_goals
    simp only [fofF, fofV, hc]
    simp
    omega
def pwriteR (p : Prt) (g b : Int) : PWrR :=
  if prtV p = true then
    (if g = 0 then (if byteB b = true ∧ (p.sd.items.length : Int) < p.sd.room then ⟨⟨p.f, p.en, p.co, p.rc, ⟨p.sd.room, p.sd.items ++ [b], p.sd.shift, p.sd.left⟩, p.md⟩, true⟩ else ⟨prt0, false⟩)
    else if g = 1 then (if 0 ≤ b ∧ b ≤ 15 then ⟨⟨p.f, b, p.co, p.rc, p.sd, p.md⟩, true⟩ else ⟨prt0, false⟩)
    else if g = 3 then (if fofB b = true then ⟨⟨fofF b, p.en, p.co, p.rc, p.sd, p.md⟩, true⟩ else ⟨prt0, false⟩)
    else if g = 4 then (if 0 ≤ b ∧ b ≤ 3 then ⟨⟨p.f, p.en, b, p.rc, p.sd, p.md⟩, true⟩ else ⟨prt0, false⟩)
    else ⟨prt0, false⟩)
  else ⟨prt0, false⟩

theorem con_i_FormatOf : Con Tryd.prog 28 [.inl .int] (fun ⟨b, _⟩ K => K (fofR b).d) := by
  rintro ⟨(b : Int), _⟩ K hK w vs hr hg
  obtain ⟨l0⟩ := vs
  match l0, hr with
  | [v0], ⟨h0, _⟩ =>
    have e0 : v0 = .int .i64 b := h0
    subst e0
    obtain ⟨a, T, fr, e⟩ := hg
    have hw : w.cell? ⟨0, 0, none⟩ = some (.iface 187 (.pointer (some a))) := by simp [World.cell?, e]
    replace hK : K (fofR b).d := hK
    by_cases hc : fofB b = true
    · rw [fofR, if_pos hc] at hK
      refine (FormatOf_yes b a w hw (by simpa [fofB] using hc)).mono ?_
      rintro e w' ⟨rfl, hb⟩
      exact ⟨_, _, rfl, hK, hb, [], ⟨_, rfl, [], [], rfl, ⟨_, rfl, [], [], rfl, ⟨rfl, rfl, rfl⟩, [], [], rfl, ⟨rfl, rfl, rfl⟩, [], [], rfl, ⟨rfl, rfl, rfl⟩, rfl⟩, [], [], rfl, ⟨rfl, rfl, rfl⟩, rfl⟩, by simp⟩
    · rw [fofR, if_neg hc] at hK
      refine (FormatOf_no b a w hw (by simp [fofB] at hc; omega)).mono ?_
      rintro e w' ⟨rfl, hb⟩
      exact ⟨_, _, rfl, hK, hb, [], ⟨_, rfl, [], [], rfl, ⟨_, rfl, [], [], rfl, ⟨rfl, rfl, rfl⟩, [], [], rfl, ⟨rfl, rfl, rfl⟩, [], [], rfl, ⟨rfl, rfl, rfl⟩, rfl⟩, [], [], rfl, ⟨rfl, rfl, rfl⟩, rfl⟩, by simp⟩
def c_i_FormatOf : CS := csOf [.inl .int] (fun ⟨b, _⟩ K => K (fofR b).d)
theorem c_i_FormatOf_ok : CSok Tryd.prog 28 c_i_FormatOf := cs_ok (by kernel_rfl) con_i_FormatOf

def env_s_FormatOf : Env := [(51, c_s_l6In)]
theorem env_s_FormatOf_ok : EnvOk Tryd.prog env_s_FormatOf := envAll_ok ⟨c_s_l6In_ok, trivial⟩
def tr_s_FormatOf : Nat → Tr := fun n => match n with
  | _ => .nil
set_option maxRecDepth 100000 in
set_option maxHeartbeats 2000000 in
theorem con_s_FormatOf : Con Tryd.prog 20 [.inl .int] (fun ⟨b, _⟩ K => K (fofR b).d) := by
  refine con_ofN (TR := tr_s_FormatOf) tab_ok mixed_ok env_s_FormatOf_ok Tryd.func20 rfl ?_
  rintro ⟨(b : Int), _⟩ K hK -
  replace hK : K (fofR b).d := hK
  by_cases hc : fofB b = true
  · rw [fofR, if_pos hc] at hK
    have hc2 := hc
    simp only [fofB, decide_eq_true_eq] at hc2
    have h8 : b / 8 = 0 ∨ b / 8 = 1 ∨ b / 8 = 3 := by omega
    rcases h8 with h8 | h8 | h8
    all_goals
      simp only [fofF, fofV, h8] at hK
      repeat' ((conv => whnf); (first | (refine Side.mk ?_ ?_; focus (first | omega | with_reducible assumption | kernel_rfl | exact rfl | (with_reducible first | omega | exact rngI (by omega) | (and_intros <;> first | trivial | omega | exact rngI (by omega))) | (dsimp only [EL.len]; with_reducible first | omega | exact rngI (by omega) | (and_intros <;> first | trivial | omega | exact rngI (by omega))) | with_reducible exact rngB (by omega) | with_reducible exact rngI ⟨by decide, by decide⟩ | exact ⟨rfl, trivial⟩ | exact ⟨rfl, rfl, trivial⟩ | exact ⟨⟨rfl, rfl, rfl, rfl⟩, trivial⟩ | (show (_ : Int) ≤ _ ∧ (_ : Int) ≤ _; omega) | (show (_ : Int) ≤ _; omega) | (simp only [EL.len, EL.sz, EL.take, EL.drop, maxL, la, ln, lc, ld, lt, ls, lna]; with_reducible first | omega | exact rngI (by omega) | (and_intros <;> first | trivial | omega | exact rngI (by omega))) | (simp only [EL.len, EL.sz, EL.take, EL.drop, maxL, la, ln, lc, ld, lt, ls, lna] at *; with_reducible first | omega | exact rngI (by omega) | (and_intros <;> first | trivial | omega | exact rngI (by omega))))) | (refine End.mk ?_; exact hF) | refine End.mk ?_ | refine brT ?_ | refine brF ?_ | (refine brT' ?_ ?_; focus with_reducible assumption) | (refine brF' ?_ ?_; focus with_reducible assumption) | (refine brT' ?_ ?_; focus (simp only [beq_self_eq_true, eq_self, and_self, Bool.not_true, Bool.not_false, sameP_refl, decide_true, decide_false, Bool.and_true, Bool.true_and, Bool.or_false, Bool.false_or, not_true_eq_false, not_false_eq_true, h8]; done)) | (refine brF' ?_ ?_; focus (simp only [beq_self_eq_true, eq_self, and_self, Bool.not_true, Bool.not_false, sameP_refl, decide_true, decide_false, Bool.and_true, Bool.true_and, Bool.or_false, Bool.false_or, not_true_eq_false, not_false_eq_true, h8]; done)) | (refine Br.mk ?_ ?_ <;> (intro hb; have h := hb; (try simp only [decide_eq_true_eq, decide_eq_false_iff_not, Bool.not_eq_true', Bool.not_eq_false', Bool.not_eq_eq_eq_not, Bool.not_true, Bool.not_false, ge_iff_le, gt_iff_lt, Bool.and_eq_true, Bool.and_eq_false_iff, Bool.or_eq_true, Bool.or_eq_false_iff, beq_self_eq_true, not_true_eq_false, and_self, Bool.true_eq_false, Bool.false_eq_true, not_false_eq_true] at h); (try dsimp only [EL.len] at h); (try (exfalso; first | omega | exact bnF h (by with_reducible assumption) | exact bnT h (by with_reducible assumption))))) | (refine fun (y : Int) (h0 : 0 ≤ y) h1 => ?_)))
      all_goals first
        | (exfalso; have h' : (¬ (0 : Int) ≤ b) ∨ ¬ b ≤ (31 : Int) := (by assumption); omega)
        | (((refine Exists.intro _ (And.intro ?_ hK); repeat' (first | (refine Side.mk ?_ ?_; focus (first | with_reducible exact rfl | exact Eq.refl true | exact Eq.refl false)) | (refine Side.mk ?_ ?_) | exact True.intro))); all_goals first | exact rfl | (simp [h8]; done))
  · rw [fofR, if_neg hc] at hK
    simp only [fofB, decide_eq_true_eq] at hc
    by_cases hr : 0 ≤ b ∧ b ≤ 31
    · have h8 : b / 8 = 2 := by omega
      obtain ⟨r1, r2⟩ := hr
      repeat' ((conv => whnf); (first | (refine Side.mk ?_ ?_; focus (first | omega | with_reducible assumption | kernel_rfl | exact rfl | (with_reducible first | omega | exact rngI (by omega) | (and_intros <;> first | trivial | omega | exact rngI (by omega))) | (dsimp only [EL.len]; with_reducible first | omega | exact rngI (by omega) | (and_intros <;> first | trivial | omega | exact rngI (by omega))) | with_reducible exact rngB (by omega) | with_reducible exact rngI ⟨by decide, by decide⟩ | exact ⟨rfl, trivial⟩ | exact ⟨rfl, rfl, trivial⟩ | exact ⟨⟨rfl, rfl, rfl, rfl⟩, trivial⟩ | (show (_ : Int) ≤ _ ∧ (_ : Int) ≤ _; omega) | (show (_ : Int) ≤ _; omega) | (simp only [EL.len, EL.sz, EL.take, EL.drop, maxL, la, ln, lc, ld, lt, ls, lna]; with_reducible first | omega | exact rngI (by omega) | (and_intros <;> first | trivial | omega | exact rngI (by omega))) | (simp only [EL.len, EL.sz, EL.take, EL.drop, maxL, la, ln, lc, ld, lt, ls, lna] at *; with_reducible first | omega | exact rngI (by omega) | (and_intros <;> first | trivial | omega | exact rngI (by omega))))) | (refine End.mk ?_; exact hF) | refine End.mk ?_ | refine brT ?_ | refine brF ?_ | (refine brT' ?_ ?_; focus with_reducible assumption) | (refine brF' ?_ ?_; focus with_reducible assumption) | (refine brT' ?_ ?_; focus (simp only [beq_self_eq_true, eq_self, and_self, Bool.not_true, Bool.not_false, sameP_refl, decide_true, decide_false, Bool.and_true, Bool.true_and, Bool.or_false, Bool.false_or, not_true_eq_false, not_false_eq_true, h8, r1, r2]; done)) | (refine brF' ?_ ?_; focus (simp only [beq_self_eq_true, eq_self, and_self, Bool.not_true, Bool.not_false, sameP_refl, decide_true, decide_false, Bool.and_true, Bool.true_and, Bool.or_false, Bool.false_or, not_true_eq_false, not_false_eq_true, h8, r1, r2]; done)) | (refine Br.mk ?_ ?_ <;> (intro hb; have h := hb; (try simp only [decide_eq_true_eq, decide_eq_false_iff_not, Bool.not_eq_true', Bool.not_eq_false', Bool.not_eq_eq_eq_not, Bool.not_true, Bool.not_false, ge_iff_le, gt_iff_lt, Bool.and_eq_true, Bool.and_eq_false_iff, Bool.or_eq_true, Bool.or_eq_false_iff, beq_self_eq_true, not_true_eq_false, and_self, Bool.true_eq_false, Bool.false_eq_true, not_false_eq_true] at h); (try dsimp only [EL.len] at h); (try (exfalso; first | omega | exact bnF h (by with_reducible assumption) | exact bnT h (by with_reducible assumption))))) | (refine fun (y : Int) (h0 : 0 ≤ y) h1 => ?_)))
      all_goals first
        | (exfalso; have h' : (¬ (0 : Int) ≤ b) ∨ ¬ b ≤ (31 : Int) := (by assumption); omega)
        | (refine Exists.intro _ (And.intro ?_ hK); repeat' (first | (refine Side.mk ?_ ?_; focus (first | with_reducible exact rfl | exact Eq.refl true | exact Eq.refl false)) | (refine Side.mk ?_ ?_) | exact True.intro)); all_goals (first | exact rfl | (simp; done))
    · repeat' ((conv => whnf); (first | (refine Side.mk ?_ ?_; focus (first | omega | with_reducible assumption | kernel_rfl | exact rfl | (with_reducible first | omega | exact rngI (by omega) | (and_intros <;> first | trivial | omega | exact rngI (by omega))) | (dsimp only [EL.len]; with_reducible first | omega | exact rngI (by omega) | (and_intros <;> first | trivial | omega | exact rngI (by omega))) | with_reducible exact rngB (by omega) | with_reducible exact rngI ⟨by decide, by decide⟩ | exact ⟨rfl, trivial⟩ | exact ⟨rfl, rfl, trivial⟩ | exact ⟨⟨rfl, rfl, rfl, rfl⟩, trivial⟩ | (show (_ : Int) ≤ _ ∧ (_ : Int) ≤ _; omega) | (show (_ : Int) ≤ _; omega) | (simp only [EL.len, EL.sz, EL.take, EL.drop, maxL, la, ln, lc, ld, lt, ls, lna]; with_reducible first | omega | exact rngI (by omega) | (and_intros <;> first | trivial | omega | exact rngI (by omega))) | (simp only [EL.len, EL.sz, EL.take, EL.drop, maxL, la, ln, lc, ld, lt, ls, lna] at *; with_reducible first | omega | exact rngI (by omega) | (and_intros <;> first | trivial | omega | exact rngI (by omega))))) | (refine End.mk ?_; exact hF) | refine End.mk ?_ | refine brT ?_ | refine brF ?_ | (refine brT' ?_ ?_; focus with_reducible assumption) | (refine brF' ?_ ?_; focus with_reducible assumption) | (refine brT' ?_ ?_; focus (simp only [beq_self_eq_true, eq_self, and_self, Bool.not_true, Bool.not_false, sameP_refl, decide_true, decide_false, Bool.and_true, Bool.true_and, Bool.or_false, Bool.false_or, not_true_eq_false, not_false_eq_true, hr, hc]; done)) | (refine brF' ?_ ?_; focus (simp only [beq_self_eq_true, eq_self, and_self, Bool.not_true, Bool.not_false, sameP_refl, decide_true, decide_false, Bool.and_true, Bool.true_and, Bool.or_false, Bool.false_or, not_true_eq_false, not_false_eq_true, hr, hc]; done)) | (refine Br.mk ?_ ?_ <;> (intro hb; have h := hb; (try simp only [decide_eq_true_eq, decide_eq_false_iff_not, Bool.not_eq_true', Bool.not_eq_false', Bool.not_eq_eq_eq_not, Bool.not_true, Bool.not_false, ge_iff_le, gt_iff_lt, Bool.and_eq_true, Bool.and_eq_false_iff, Bool.or_eq_true, Bool.or_eq_false_iff, beq_self_eq_true, not_true_eq_false, and_self, Bool.true_eq_false, Bool.false_eq_true, not_false_eq_true] at h); (try dsimp only [EL.len] at h); (try (exfalso; first | omega | exact bnF h (by with_reducible assumption) | exact bnT h (by with_reducible assumption))))) | (refine fun (y : Int) (h0 : 0 ≤ y) h1 => ?_)))
      all_goals first
        | (exfalso; have h' : (0 : Int) ≤ b ∧ b ≤ (31 : Int) := (by assumption); exact hr h')
        | (refine Exists.intro _ (And.intro ?_ hK); repeat' (first | (refine Side.mk ?_ ?_; focus (first | with_reducible exact rfl | exact Eq.refl true | exact Eq.refl false)) | (refine Side.mk ?_ ?_) | exact True.intro)); all_goals (first | exact rfl | (simp; done))
def c_s_FormatOf : CS := csOf [.inl .int] (fun ⟨b, _⟩ K => K (fofR b).d)
theorem c_s_FormatOf_ok : CSok Tryd.prog 20 c_s_FormatOf := cs_ok (by kernel_rfl) con_s_FormatOf

end Go.Proofs.YtkhggobpanfkfaaDoor
