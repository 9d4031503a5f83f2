/-
  Senders of the program and of the reference, by the abstract walk.
-/
import Derived.Test.YtkhggobpanfkfaaDoorG1
import Derived.Test.YtkhggobpanfkfaaDoorM4
namespace Go.Proofs.YtkhggobpanfkfaaDoor
open Go.RowKit
open Ab
set_option linter.unusedSimpArgs false
set_option linter.unusedVariables false


def env_i_Sender_waiting : Env := []
theorem env_i_Sender_waiting_ok : EnvOk Tryd.prog env_i_Sender_waiting := envAll_ok trivial
def tr_i_Sender_waiting : Nat → Tr := fun n => match n with
  | _ => .nil
def c_i_Sender_waiting : CS := csN tab env_i_Sender_waiting tr_i_Sender_waiting Tryd.f62
theorem c_i_Sender_waiting_ok : CSok Tryd.prog 62 c_i_Sender_waiting := csN_ok tab_ok mixed_ok env_i_Sender_waiting_ok Tryd.func62 (by kernel_rfl)

def env_i_sendCopy : Env := []
theorem env_i_sendCopy_ok : EnvOk Tryd.prog env_i_sendCopy := envAll_ok trivial
def tr_i_sendCopy : Nat → Tr := fun n => match n with
  | _ => .nil
set_option maxRecDepth 100000 in
set_option maxHeartbeats 2000000 in
theorem con_i_sendCopy : Con Tryd.prog 59 [.inr [.int, .ints, .int, .int]] (fun ⟨⟨r, l, s, f, _⟩, _⟩ K => K (.a (Snd.d ⟨r, l, s, f⟩))) := by
  refine con_ofN (TR := tr_i_sendCopy) tab_ok mixed_ok env_i_sendCopy_ok Tryd.func59 rfl ?_
  rintro ⟨⟨(r : Int), (l : List Int), (s : Int), (f : Int), _⟩, _⟩ K hK ⟨⟨_, hl, _⟩, _⟩
  replace hK : K (.a (Snd.d ⟨r, l, s, f⟩)) := hK
  replace hl : l.length ≤ 1099511627776 := hl
  repeat' ((conv => whnf); (first | (refine Side.mk ?_ ?_; focus (first | omega | with_reducible assumption | kernel_rfl | exact rfl | (with_reducible first | omega | exact rngI (by omega) | (and_intros <;> first | trivial | omega | exact rngI (by omega))) | (dsimp only [EL.len]; with_reducible first | omega | exact rngI (by omega) | (and_intros <;> first | trivial | omega | exact rngI (by omega))) | with_reducible exact rngB (by omega) | with_reducible exact rngI ⟨by decide, by decide⟩ | exact ⟨rfl, trivial⟩ | exact ⟨rfl, rfl, trivial⟩ | exact ⟨⟨rfl, rfl, rfl, rfl⟩, trivial⟩ | (show (_ : Int) ≤ _ ∧ (_ : Int) ≤ _; omega) | (show (_ : Int) ≤ _; omega) | (simp only [EL.len, EL.sz, EL.take, EL.drop, maxL, la, ln, lc, ld, lt, ls, lna]; with_reducible first | omega | exact rngI (by omega) | (and_intros <;> first | trivial | omega | exact rngI (by omega))) | (simp only [EL.len, EL.sz, EL.take, EL.drop, maxL, la, ln, lc, ld, lt, ls, lna] at *; with_reducible first | omega | exact rngI (by omega) | (and_intros <;> first | trivial | omega | exact rngI (by omega))))) | (refine End.mk ?_; exact hF) | refine End.mk ?_ | refine brT ?_ | refine brF ?_ | (refine brT' ?_ ?_; focus with_reducible assumption) | (refine brF' ?_ ?_; focus with_reducible assumption) | (refine Br.mk ?_ ?_ <;> (intro hb; have h := hb; (try simp only [decide_eq_true_eq, decide_eq_false_iff_not, Bool.not_eq_true', Bool.not_eq_false', Bool.not_eq_eq_eq_not, Bool.not_true, Bool.not_false, ge_iff_le, gt_iff_lt, Bool.and_eq_true, Bool.and_eq_false_iff, Bool.or_eq_true, Bool.or_eq_false_iff, beq_self_eq_true, not_true_eq_false, and_self, Bool.true_eq_false, Bool.false_eq_true, not_false_eq_true] at h); (try dsimp only [EL.len] at h); (try (exfalso; first | omega | exact bnF h (by with_reducible assumption) | exact bnT h (by with_reducible assumption))))) | (refine fun (y : Int) (h0 : 0 ≤ y) h1 => ?_)))
  (refine Exists.intro _ (And.intro ?_ hK); repeat' (first | (refine Side.mk ?_ ?_; focus (first | with_reducible exact rfl | exact Eq.refl true | exact Eq.refl false)) | (refine Side.mk ?_ ?_) | exact True.intro))
  all_goals rfl
def c_i_sendCopy : CS := csOf [.inr [.int, .ints, .int, .int]] (fun ⟨⟨r, l, s, f, _⟩, _⟩ K => K (.a (Snd.d ⟨r, l, s, f⟩)))
theorem c_i_sendCopy_ok : CSok Tryd.prog 59 c_i_sendCopy := cs_ok (by kernel_rfl) con_i_sendCopy

def env_i_SendValid : Env := [(62, c_i_Sender_waiting), (90, c_i_FifoValid), (91, c_i_isByte)]
theorem env_i_SendValid_ok : EnvOk Tryd.prog env_i_SendValid := envAll_ok ⟨c_i_Sender_waiting_ok, c_i_FifoValid_ok, c_i_isByte_ok, trivial⟩
def tr_i_SendValid : Nat → Tr := fun n => match n with
  | _ => .nil
set_option maxRecDepth 100000 in
set_option maxHeartbeats 2000000 in
theorem con_i_SendValid : Con Tryd.prog 60 [.inr [.int, .ints, .int, .int]] (fun ⟨⟨r, l, s, f, _⟩, _⟩ K => K (.l (.v (.bool (sndV ⟨r, l, s, f⟩))))) := by
  refine con_ofN (TR := tr_i_SendValid) tab_ok mixed_ok env_i_SendValid_ok Tryd.func60 rfl ?_
  rintro ⟨⟨(r : Int), (l : List Int), (s : Int), (f : Int), _⟩, _⟩ K hK ⟨⟨_, hl, _⟩, _⟩
  replace hK : K (.l (.v (.bool (sndV ⟨r, l, s, f⟩)))) := hK
  replace hl : l.length ≤ 1099511627776 := hl
  repeat' ((conv => whnf); (first | (refine Side.mk ?_ ?_; focus (first | omega | with_reducible assumption | kernel_rfl | exact rfl | (with_reducible first | omega | exact rngI (by omega) | (and_intros <;> first | trivial | omega | exact rngI (by omega))) | (dsimp only [EL.len]; with_reducible first | omega | exact rngI (by omega) | (and_intros <;> first | trivial | omega | exact rngI (by omega))) | with_reducible exact rngB (by omega) | with_reducible exact rngI ⟨by decide, by decide⟩ | exact ⟨rfl, trivial⟩ | exact ⟨rfl, rfl, trivial⟩ | exact ⟨⟨rfl, rfl, rfl, rfl⟩, trivial⟩ | (show (_ : Int) ≤ _ ∧ (_ : Int) ≤ _; omega) | (show (_ : Int) ≤ _; omega) | (simp only [EL.len, EL.sz, EL.take, EL.drop, maxL, la, ln, lc, ld, lt, ls, lna]; with_reducible first | omega | exact rngI (by omega) | (and_intros <;> first | trivial | omega | exact rngI (by omega))) | (simp only [EL.len, EL.sz, EL.take, EL.drop, maxL, la, ln, lc, ld, lt, ls, lna] at *; with_reducible first | omega | exact rngI (by omega) | (and_intros <;> first | trivial | omega | exact rngI (by omega))))) | (refine End.mk ?_; exact hF) | refine End.mk ?_ | refine brT ?_ | refine brF ?_ | (refine brT' ?_ ?_; focus with_reducible assumption) | (refine brF' ?_ ?_; focus with_reducible assumption) | (refine Br.mk ?_ ?_ <;> (intro hb; have h := hb; (try simp only [decide_eq_true_eq, decide_eq_false_iff_not, Bool.not_eq_true', Bool.not_eq_false', Bool.not_eq_eq_eq_not, Bool.not_true, Bool.not_false, ge_iff_le, gt_iff_lt, Bool.and_eq_true, Bool.and_eq_false_iff, Bool.or_eq_true, Bool.or_eq_false_iff, beq_self_eq_true, not_true_eq_false, and_self, Bool.true_eq_false, Bool.false_eq_true, not_false_eq_true] at h); (try dsimp only [EL.len] at h); (try (exfalso; first | omega | exact bnF h (by with_reducible assumption) | exact bnT h (by with_reducible assumption))))) | (refine fun (y : Int) (h0 : 0 ≤ y) h1 => ?_)))
  all_goals
    (refine Exists.intro _ (And.intro ?_ hK); repeat' (first | (refine Side.mk ?_ ?_; focus (first | with_reducible exact rfl | exact Eq.refl true | exact Eq.refl false)) | (refine Side.mk ?_ ?_) | exact True.intro))
    simp [sndV, *]
def c_i_SendValid : CS := csOf [.inr [.int, .ints, .int, .int]] (fun ⟨⟨r, l, s, f, _⟩, _⟩ K => K (.l (.v (.bool (sndV ⟨r, l, s, f⟩)))))
theorem c_i_SendValid_ok : CSok Tryd.prog 60 c_i_SendValid := cs_ok (by kernel_rfl) con_i_SendValid


def env_s_SendValid : Env := [(88, c_s_l4Bytes), (51, c_s_l6In)]
theorem env_s_SendValid_ok : EnvOk Tryd.prog env_s_SendValid := envAll_ok ⟨c_s_l4Bytes_ok, c_s_l6In_ok, trivial⟩
def tr_s_SendValid : Nat → Tr := fun n => match n with
  | _ => .nil
set_option maxRecDepth 100000 in
set_option maxHeartbeats 2000000 in
theorem con_s_SendValid : Con Tryd.prog 53 [.inr [.int, .ints, .int, .int]] (fun ⟨⟨r, l, s, f, _⟩, _⟩ K => K (.l (.v (.bool (sndV ⟨r, l, s, f⟩))))) := by
  refine con_ofN (TR := tr_s_SendValid) tab_ok mixed_ok env_s_SendValid_ok Tryd.func53 rfl ?_
  rintro ⟨⟨(r : Int), (l : List Int), (s : Int), (f : Int), _⟩, _⟩ K hK ⟨⟨_, hl, _⟩, _⟩
  replace hK : K (.l (.v (.bool (sndV ⟨r, l, s, f⟩)))) := hK
  replace hl : l.length ≤ 1099511627776 := hl
  repeat' ((conv => whnf); (first | (refine Side.mk ?_ ?_; focus (first | omega | with_reducible assumption | kernel_rfl | exact rfl | (with_reducible first | omega | exact rngI (by omega) | (and_intros <;> first | trivial | omega | exact rngI (by omega))) | (dsimp only [EL.len]; with_reducible first | omega | exact rngI (by omega) | (and_intros <;> first | trivial | omega | exact rngI (by omega))) | with_reducible exact rngB (by omega) | with_reducible exact rngI ⟨by decide, by decide⟩ | exact ⟨rfl, trivial⟩ | exact ⟨rfl, rfl, trivial⟩ | exact ⟨⟨rfl, rfl, rfl, rfl⟩, trivial⟩ | (show (_ : Int) ≤ _ ∧ (_ : Int) ≤ _; omega) | (show (_ : Int) ≤ _; omega) | (simp only [EL.len, EL.sz, EL.take, EL.drop, maxL, la, ln, lc, ld, lt, ls, lna]; with_reducible first | omega | exact rngI (by omega) | (and_intros <;> first | trivial | omega | exact rngI (by omega))) | (simp only [EL.len, EL.sz, EL.take, EL.drop, maxL, la, ln, lc, ld, lt, ls, lna] at *; with_reducible first | omega | exact rngI (by omega) | (and_intros <;> first | trivial | omega | exact rngI (by omega))))) | (refine End.mk ?_; exact hF) | refine End.mk ?_ | refine brT ?_ | refine brF ?_ | (refine brT' ?_ ?_; focus with_reducible assumption) | (refine brF' ?_ ?_; focus with_reducible assumption) | (refine Br.mk ?_ ?_ <;> (intro hb; have h := hb; (try simp only [decide_eq_true_eq, decide_eq_false_iff_not, Bool.not_eq_true', Bool.not_eq_false', Bool.not_eq_eq_eq_not, Bool.not_true, Bool.not_false, ge_iff_le, gt_iff_lt, Bool.and_eq_true, Bool.and_eq_false_iff, Bool.or_eq_true, Bool.or_eq_false_iff, beq_self_eq_true, not_true_eq_false, and_self, Bool.true_eq_false, Bool.false_eq_true, not_false_eq_true] at h); (try dsimp only [EL.len] at h); (try (exfalso; first | omega | exact bnF h (by with_reducible assumption) | exact bnT h (by with_reducible assumption))))) | (refine fun (y : Int) (h0 : 0 ≤ y) h1 => ?_)))
  all_goals
    (refine Exists.intro _ (And.intro ?_ hK); repeat' (first | (refine Side.mk ?_ ?_; focus (first | with_reducible exact rfl | exact Eq.refl true | exact Eq.refl false)) | (refine Side.mk ?_ ?_) | exact True.intro))
    simp_all [sndV, fifoB, byteB]
    try omega
def c_s_SendValid : CS := csOf [.inr [.int, .ints, .int, .int]] (fun ⟨⟨r, l, s, f, _⟩, _⟩ K => K (.l (.v (.bool (sndV ⟨r, l, s, f⟩)))))
theorem c_s_SendValid_ok : CSok Tryd.prog 53 c_s_SendValid := cs_ok (by kernel_rfl) con_s_SendValid

end Go.Proofs.YtkhggobpanfkfaaDoor
