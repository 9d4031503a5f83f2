/-
  Receivers: what is valid; what the reference does, by the abstract walk.
-/
import Derived.Test.YtkhggobpanfkfaaDoorM4
import Derived.Test.YtkhggobpanfkfaaDoorG1
import Derived.Test.YtkhggobpanfkfaaDoorG2
namespace Go.Proofs.YtkhggobpanfkfaaDoor
open Go.RowKit
open Ab
set_option linter.unusedSimpArgs false
set_option linter.unusedVariables false

def env_i_gotValid : Env := [(91, c_i_isByte)]
theorem env_i_gotValid_ok : EnvOk Tryd.prog env_i_gotValid := envAll_ok ⟨c_i_isByte_ok, trivial⟩
def tr_i_gotValid : Nat → Tr := fun n => match n with
  | _ => .nil
set_option maxRecDepth 100000 in
set_option maxHeartbeats 2000000 in
theorem con_i_gotValid : Con Tryd.prog 99 [.inr [.int, .int]] (fun ⟨⟨a, b, _⟩, _⟩ K => K (.l (.v (.bool (gotB (a, b)))))) := by
  refine con_ofN (TR := tr_i_gotValid) tab_ok mixed_ok env_i_gotValid_ok Tryd.func99 rfl ?_
  rintro ⟨⟨(a : Int), (b : Int), _⟩, _⟩ K hK _
  replace hK : K (.l (.v (.bool (gotB (a, b))))) := hK
  repeat' ((conv => whnf); (first | (refine Side.mk ?_ ?_; focus (first | omega | with_reducible assumption | kernel_rfl | exact rfl | (with_reducible first | omega | exact rngI (by omega) | (and_intros <;> first | trivial | omega | exact rngI (by omega))) | (dsimp only [EL.len]; with_reducible first | omega | exact rngI (by omega) | (and_intros <;> first | trivial | omega | exact rngI (by omega))) | with_reducible exact rngB (by omega) | with_reducible exact rngI ⟨by decide, by decide⟩ | exact ⟨rfl, trivial⟩ | exact ⟨rfl, rfl, trivial⟩ | exact ⟨⟨rfl, rfl, rfl, rfl⟩, trivial⟩ | (show (_ : Int) ≤ _ ∧ (_ : Int) ≤ _; omega) | (show (_ : Int) ≤ _; omega) | (simp only [EL.len, EL.sz, EL.take, EL.drop, maxL, la, ln, lc, ld, lt, ls, lna]; with_reducible first | omega | exact rngI (by omega) | (and_intros <;> first | trivial | omega | exact rngI (by omega))) | (simp only [EL.len, EL.sz, EL.take, EL.drop, maxL, la, ln, lc, ld, lt, ls, lna] at *; with_reducible first | omega | exact rngI (by omega) | (and_intros <;> first | trivial | omega | exact rngI (by omega))))) | (refine End.mk ?_; exact hF) | refine End.mk ?_ | refine brT ?_ | refine brF ?_ | (refine brT' ?_ ?_; focus with_reducible assumption) | (refine brF' ?_ ?_; focus with_reducible assumption) | (refine Br.mk ?_ ?_ <;> (intro hb; have h := hb; (try simp only [decide_eq_true_eq, decide_eq_false_iff_not, Bool.not_eq_true', Bool.not_eq_false', Bool.not_eq_eq_eq_not, Bool.not_true, Bool.not_false, ge_iff_le, gt_iff_lt, Bool.and_eq_true, Bool.and_eq_false_iff, Bool.or_eq_true, Bool.or_eq_false_iff, beq_self_eq_true, not_true_eq_false, and_self, Bool.true_eq_false, Bool.false_eq_true, not_false_eq_true] at h); (try dsimp only [EL.len] at h); (try (exfalso; first | omega | exact bnF h (by with_reducible assumption) | exact bnT h (by with_reducible assumption))))) | (refine fun (y : Int) (h0 : 0 ≤ y) h1 => ?_)))
  all_goals
    (refine Exists.intro _ (And.intro ?_ hK); repeat' (first | (refine Side.mk ?_ ?_; focus (first | with_reducible exact rfl | exact Eq.refl true | exact Eq.refl false)) | (refine Side.mk ?_ ?_) | exact True.intro))
    simp [gotB, *]
def c_i_gotValid : CS := csOf [.inr [.int, .int]] (fun ⟨⟨a, b, _⟩, _⟩ K => K (.l (.v (.bool (gotB (a, b))))))
theorem c_i_gotValid_ok : CSok Tryd.prog 99 c_i_gotValid := cs_ok (by kernel_rfl) con_i_gotValid

def env_s_l11Got : Env := [(51, c_s_l6In)]
theorem env_s_l11Got_ok : EnvOk Tryd.prog env_s_l11Got := envAll_ok ⟨c_s_l6In_ok, trivial⟩
def tr_s_l11Got : Nat → Tr := fun n => match n with
  | _ => .nil
set_option maxRecDepth 100000 in
set_option maxHeartbeats 2000000 in
theorem con_s_l11Got : Con Tryd.prog 87 [.inr [.int, .int]] (fun ⟨⟨a, b, _⟩, _⟩ K => K (.l (.v (.bool (gotB (a, b)))))) := by
  refine con_ofN (TR := tr_s_l11Got) tab_ok mixed_ok env_s_l11Got_ok Tryd.func87 rfl ?_
  rintro ⟨⟨(a : Int), (b : Int), _⟩, _⟩ K hK _
  replace hK : K (.l (.v (.bool (gotB (a, b))))) := hK
  repeat' ((conv => whnf); (first | (refine Side.mk ?_ ?_; focus (first | omega | with_reducible assumption | kernel_rfl | exact rfl | (with_reducible first | omega | exact rngI (by omega) | (and_intros <;> first | trivial | omega | exact rngI (by omega))) | (dsimp only [EL.len]; with_reducible first | omega | exact rngI (by omega) | (and_intros <;> first | trivial | omega | exact rngI (by omega))) | with_reducible exact rngB (by omega) | with_reducible exact rngI ⟨by decide, by decide⟩ | exact ⟨rfl, trivial⟩ | exact ⟨rfl, rfl, trivial⟩ | exact ⟨⟨rfl, rfl, rfl, rfl⟩, trivial⟩ | (show (_ : Int) ≤ _ ∧ (_ : Int) ≤ _; omega) | (show (_ : Int) ≤ _; omega) | (simp only [EL.len, EL.sz, EL.take, EL.drop, maxL, la, ln, lc, ld, lt, ls, lna]; with_reducible first | omega | exact rngI (by omega) | (and_intros <;> first | trivial | omega | exact rngI (by omega))) | (simp only [EL.len, EL.sz, EL.take, EL.drop, maxL, la, ln, lc, ld, lt, ls, lna] at *; with_reducible first | omega | exact rngI (by omega) | (and_intros <;> first | trivial | omega | exact rngI (by omega))))) | (refine End.mk ?_; exact hF) | refine End.mk ?_ | refine brT ?_ | refine brF ?_ | (refine brT' ?_ ?_; focus with_reducible assumption) | (refine brF' ?_ ?_; focus with_reducible assumption) | (refine Br.mk ?_ ?_ <;> (intro hb; have h := hb; (try simp only [decide_eq_true_eq, decide_eq_false_iff_not, Bool.not_eq_true', Bool.not_eq_false', Bool.not_eq_eq_eq_not, Bool.not_true, Bool.not_false, ge_iff_le, gt_iff_lt, Bool.and_eq_true, Bool.and_eq_false_iff, Bool.or_eq_true, Bool.or_eq_false_iff, beq_self_eq_true, not_true_eq_false, and_self, Bool.true_eq_false, Bool.false_eq_true, not_false_eq_true] at h); (try dsimp only [EL.len] at h); (try (exfalso; first | omega | exact bnF h (by with_reducible assumption) | exact bnT h (by with_reducible assumption))))) | (refine fun (y : Int) (h0 : 0 ≤ y) h1 => ?_)))
  all_goals
    (refine Exists.intro _ (And.intro ?_ hK); repeat' (first | (refine Side.mk ?_ ?_; focus (first | with_reducible exact rfl | exact Eq.refl true | exact Eq.refl false)) | (refine Side.mk ?_ ?_) | exact True.intro))
    simp_all [gotB, byteB]
    try (intros; omega)
def c_s_l11Got : CS := csOf [.inr [.int, .int]] (fun ⟨⟨a, b, _⟩, _⟩ K => K (.l (.v (.bool (gotB (a, b))))))
theorem c_s_l11Got_ok : CSok Tryd.prog 87 c_s_l11Got := cs_ok (by kernel_rfl) con_s_l11Got

def env_i_RecvValid : Env := [(99, c_i_gotValid)]
theorem env_i_RecvValid_ok : EnvOk Tryd.prog env_i_RecvValid := envAll_ok ⟨c_i_gotValid_ok, trivial⟩
def tr_i_RecvValid : Nat → Tr := fun n => match n with
  | _ => .nil
set_option maxRecDepth 100000 in
set_option maxHeartbeats 2000000 in
theorem con_i_RecvValid : Con Tryd.prog 77 [.inr [.int, .int, .gots, .bool, .int]] (fun ⟨⟨r, t, l, o, a, _⟩, _⟩ K => K (.l (.v (.bool (rcvV ⟨r, t, l, o, a⟩))))) := by
  refine con_ofN (TR := tr_i_RecvValid) tab_ok mixed_ok env_i_RecvValid_ok Tryd.func77 rfl ?_
  rintro ⟨⟨(r : Int), (t : Int), (l : List (Int × Int)), (o : Bool), (a : Int), _⟩, _⟩ K hK ⟨⟨_, _, hl, _⟩, _⟩
  replace hK : K (.l (.v (.bool (rcvV ⟨r, t, l, o, a⟩)))) := hK
  replace hl : l.length ≤ 1099511627776 := hl
  repeat' ((conv => whnf); (first | (refine Side.mk ?_ ?_; focus (first | omega | with_reducible assumption | kernel_rfl | exact rfl | (with_reducible first | omega | exact rngI (by omega) | (and_intros <;> first | trivial | omega | exact rngI (by omega))) | (dsimp only [EL.len]; with_reducible first | omega | exact rngI (by omega) | (and_intros <;> first | trivial | omega | exact rngI (by omega))) | with_reducible exact rngB (by omega) | with_reducible exact rngI ⟨by decide, by decide⟩ | exact ⟨rfl, trivial⟩ | exact ⟨rfl, rfl, trivial⟩ | exact ⟨⟨rfl, rfl, rfl, rfl⟩, trivial⟩ | (show (_ : Int) ≤ _ ∧ (_ : Int) ≤ _; omega) | (show (_ : Int) ≤ _; omega) | (simp only [EL.len, EL.sz, EL.take, EL.drop, maxL, la, ln, lc, ld, lt, ls, lna]; with_reducible first | omega | exact rngI (by omega) | (and_intros <;> first | trivial | omega | exact rngI (by omega))) | (simp only [EL.len, EL.sz, EL.take, EL.drop, maxL, la, ln, lc, ld, lt, ls, lna] at *; with_reducible first | omega | exact rngI (by omega) | (and_intros <;> first | trivial | omega | exact rngI (by omega))))) | (refine End.mk ?_; exact hF) | refine End.mk ?_ | refine brT ?_ | refine brF ?_ | (refine brT' ?_ ?_; focus with_reducible assumption) | (refine brF' ?_ ?_; focus with_reducible assumption) | (refine Br.mk ?_ ?_ <;> (intro hb; have h := hb; (try simp only [decide_eq_true_eq, decide_eq_false_iff_not, Bool.not_eq_true', Bool.not_eq_false', Bool.not_eq_eq_eq_not, Bool.not_true, Bool.not_false, ge_iff_le, gt_iff_lt, Bool.and_eq_true, Bool.and_eq_false_iff, Bool.or_eq_true, Bool.or_eq_false_iff, beq_self_eq_true, not_true_eq_false, and_self, Bool.true_eq_false, Bool.false_eq_true, not_false_eq_true] at h); (try dsimp only [EL.len] at h); (try (exfalso; first | omega | exact bnF h (by with_reducible assumption) | exact bnT h (by with_reducible assumption))))) | (refine fun (y : Int) (h0 : 0 ≤ y) h1 => ?_)))
  iterate 7 (first | ((refine Exists.intro _ (And.intro ?_ hK); repeat' (first | (refine Side.mk ?_ ?_; focus (first | with_reducible exact rfl | exact Eq.refl true | exact Eq.refl false)) | (refine Side.mk ?_ ?_) | exact True.intro)) <;> first | exact True.intro | exact (rcvV_no (by omega)).symm))
  refine LoopG.inv {k : Nat // k ≤ l.length ∧ allG (l.take k) = true} (fun ⟨k, _⟩ => [(44, .l (.v (.int .i64 k)))]) (fun _ => []) (fun ⟨k, _⟩ => l.length - k) ⟨0, Nat.zero_le _, rfl⟩ [0] ?_ ?_
  · repeat' (first | (refine Side.mk ?_ ?_; focus (first | kernel_rfl | exact rfl | exact ⟨rfl, trivial⟩ | exact fun _ h => h | exact ⟨⟨rfl, rfl, rfl, rfl⟩, trivial⟩ | exact ⟨⟨rfl, rfl⟩, rfl, rfl⟩ | exact ⟨rfl, rfl, trivial⟩)) | exact True.intro)
  rintro ⟨k, hk, hk2⟩
  repeat' ((conv => whnf); (first | (refine Side.mk ?_ ?_; focus (first | omega | with_reducible assumption | kernel_rfl | exact rfl | (with_reducible first | omega | exact rngI (by omega) | (and_intros <;> first | trivial | omega | exact rngI (by omega))) | (dsimp only [EL.len]; with_reducible first | omega | exact rngI (by omega) | (and_intros <;> first | trivial | omega | exact rngI (by omega))) | with_reducible exact rngB (by omega) | with_reducible exact rngI ⟨by decide, by decide⟩ | exact ⟨rfl, trivial⟩ | exact ⟨rfl, rfl, trivial⟩ | exact ⟨⟨rfl, rfl, rfl, rfl⟩, trivial⟩ | (show (_ : Int) ≤ _ ∧ (_ : Int) ≤ _; omega) | (show (_ : Int) ≤ _; omega) | (simp only [EL.len, EL.sz, EL.take, EL.drop, maxL, la, ln, lc, ld, lt, ls, lna]; with_reducible first | omega | exact rngI (by omega) | (and_intros <;> first | trivial | omega | exact rngI (by omega))) | (simp only [EL.len, EL.sz, EL.take, EL.drop, maxL, la, ln, lc, ld, lt, ls, lna] at *; with_reducible first | omega | exact rngI (by omega) | (and_intros <;> first | trivial | omega | exact rngI (by omega))))) | (refine End.mk ?_; exact hF) | refine End.mk ?_ | refine brT ?_ | refine brF ?_ | (refine brT' ?_ ?_; focus with_reducible assumption) | (refine brF' ?_ ?_; focus with_reducible assumption) | (refine Br.mk ?_ ?_ <;> (intro hb; have h := hb; (try simp only [decide_eq_true_eq, decide_eq_false_iff_not, Bool.not_eq_true', Bool.not_eq_false', Bool.not_eq_eq_eq_not, Bool.not_true, Bool.not_false, ge_iff_le, gt_iff_lt, Bool.and_eq_true, Bool.and_eq_false_iff, Bool.or_eq_true, Bool.or_eq_false_iff, beq_self_eq_true, not_true_eq_false, and_self, Bool.true_eq_false, Bool.false_eq_true, not_false_eq_true] at h); (try dsimp only [EL.len] at h); (try (exfalso; first | omega | exact bnF h (by with_reducible assumption) | exact bnT h (by with_reducible assumption))))) | (refine fun (y : Int) (h0 : 0 ≤ y) h1 => ?_)))
  · (refine Exists.intro _ (And.intro ?_ hK); repeat' (first | (refine Side.mk ?_ ?_; focus (first | with_reducible exact rfl | exact Eq.refl true | exact Eq.refl false)) | (refine Side.mk ?_ ?_) | exact True.intro))
    exact (rcvV_no (fun e => by rw [allG_false l k (by omega) (by simpa using h)] at e; exact absurd e.2.2.2.2 (by simp))).symm
  · have h2 : allG (l.take (k + 1)) = true := by rw [allG_take_succ l k (by omega), hk2]; simpa using h
    (refine Exists.intro ⟨k + 1, by omega, h2⟩ (Exists.intro [0] (And.intro ?_ ?_)))
    · show l.length - (k + 1) < l.length - k
      omega
    · repeat' (first | (refine Side.mk ?_ ?_; focus (first | kernel_rfl | exact rfl | exact ⟨rfl, trivial⟩ | exact fun _ h => h | exact ⟨⟨rfl, rfl, rfl, rfl⟩, trivial⟩ | exact ⟨⟨rfl, rfl⟩, rfl, rfl⟩ | exact ⟨rfl, rfl, trivial⟩)) | exact True.intro)
  · (refine Exists.intro _ (And.intro ?_ hK); repeat' (first | (refine Side.mk ?_ ?_; focus (first | with_reducible exact rfl | exact Eq.refl true | exact Eq.refl false)) | (refine Side.mk ?_ ?_) | exact True.intro))
    rw [List.take_of_length_le (by omega)] at hk2
    exact (rcvV_yes (by omega) (by omega) (by omega) (by omega) hk2).symm
def c_i_RecvValid : CS := csOf [.inr [.int, .int, .gots, .bool, .int]] (fun ⟨⟨r, t, l, o, a, _⟩, _⟩ K => K (.l (.v (.bool (rcvV ⟨r, t, l, o, a⟩)))))
theorem c_i_RecvValid_ok : CSok Tryd.prog 77 c_i_RecvValid := cs_ok (by kernel_rfl) con_i_RecvValid

def env_s_RecvValid : Env := [(87, c_s_l11Got), (51, c_s_l6In)]
theorem env_s_RecvValid_ok : EnvOk Tryd.prog env_s_RecvValid := envAll_ok ⟨c_s_l11Got_ok, c_s_l6In_ok, trivial⟩
def tr_s_RecvValid : Nat → Tr := fun n => match n with
  | _ => .nil
set_option maxRecDepth 100000 in
set_option maxHeartbeats 2000000 in
theorem con_s_RecvValid : Con Tryd.prog 52 [.inr [.int, .int, .gots, .bool, .int]] (fun ⟨⟨r, t, l, o, a, _⟩, _⟩ K => K (.l (.v (.bool (rcvV ⟨r, t, l, o, a⟩))))) := by
  refine con_ofN (TR := tr_s_RecvValid) tab_ok mixed_ok env_s_RecvValid_ok Tryd.func52 rfl ?_
  rintro ⟨⟨(r : Int), (t : Int), (l : List (Int × Int)), (o : Bool), (a : Int), _⟩, _⟩ K hK ⟨⟨_, _, hl, _⟩, _⟩
  replace hK : K (.l (.v (.bool (rcvV ⟨r, t, l, o, a⟩)))) := hK
  replace hl : l.length ≤ 1099511627776 := hl
  repeat' ((conv => whnf); (first | (refine Side.mk ?_ ?_; focus (first | omega | with_reducible assumption | kernel_rfl | exact rfl | (with_reducible first | omega | exact rngI (by omega) | (and_intros <;> first | trivial | omega | exact rngI (by omega))) | (dsimp only [EL.len]; with_reducible first | omega | exact rngI (by omega) | (and_intros <;> first | trivial | omega | exact rngI (by omega))) | with_reducible exact rngB (by omega) | with_reducible exact rngI ⟨by decide, by decide⟩ | exact ⟨rfl, trivial⟩ | exact ⟨rfl, rfl, trivial⟩ | exact ⟨⟨rfl, rfl, rfl, rfl⟩, trivial⟩ | (show (_ : Int) ≤ _ ∧ (_ : Int) ≤ _; omega) | (show (_ : Int) ≤ _; omega) | (simp only [EL.len, EL.sz, EL.take, EL.drop, maxL, la, ln, lc, ld, lt, ls, lna]; with_reducible first | omega | exact rngI (by omega) | (and_intros <;> first | trivial | omega | exact rngI (by omega))) | (simp only [EL.len, EL.sz, EL.take, EL.drop, maxL, la, ln, lc, ld, lt, ls, lna] at *; with_reducible first | omega | exact rngI (by omega) | (and_intros <;> first | trivial | omega | exact rngI (by omega))))) | (refine End.mk ?_; exact hF) | refine End.mk ?_ | refine brT ?_ | refine brF ?_ | (refine brT' ?_ ?_; focus with_reducible assumption) | (refine brF' ?_ ?_; focus with_reducible assumption) | (refine Br.mk ?_ ?_ <;> (intro hb; have h := hb; (try simp only [decide_eq_true_eq, decide_eq_false_iff_not, Bool.not_eq_true', Bool.not_eq_false', Bool.not_eq_eq_eq_not, Bool.not_true, Bool.not_false, ge_iff_le, gt_iff_lt, Bool.and_eq_true, Bool.and_eq_false_iff, Bool.or_eq_true, Bool.or_eq_false_iff, beq_self_eq_true, not_true_eq_false, and_self, Bool.true_eq_false, Bool.false_eq_true, not_false_eq_true] at h); (try dsimp only [EL.len] at h); (try (exfalso; first | omega | exact bnF h (by with_reducible assumption) | exact bnT h (by with_reducible assumption))))) | (refine fun (y : Int) (h0 : 0 ≤ y) h1 => ?_)))
  refine LoopG.inv {k : Nat // k ≤ l.length ∧ allG (l.take k) = true} (fun ⟨k, _⟩ => [(3, .l (.v (.int .i64 k)))]) (fun _ => []) (fun ⟨k, _⟩ => l.length - k) ⟨0, Nat.zero_le _, rfl⟩ [0] ?_ ?_
  · repeat' (first | (refine Side.mk ?_ ?_; focus (first | kernel_rfl | exact rfl | exact ⟨rfl, trivial⟩ | exact fun _ h => h | exact ⟨⟨rfl, rfl, rfl, rfl⟩, trivial⟩ | exact ⟨⟨rfl, rfl⟩, rfl, rfl⟩ | exact ⟨rfl, rfl, trivial⟩)) | exact True.intro)
  rintro ⟨k, hk, hk2⟩
  repeat' ((conv => whnf); (first | (refine Side.mk ?_ ?_; focus (first | omega | with_reducible assumption | kernel_rfl | exact rfl | (with_reducible first | omega | exact rngI (by omega) | (and_intros <;> first | trivial | omega | exact rngI (by omega))) | (dsimp only [EL.len]; with_reducible first | omega | exact rngI (by omega) | (and_intros <;> first | trivial | omega | exact rngI (by omega))) | with_reducible exact rngB (by omega) | with_reducible exact rngI ⟨by decide, by decide⟩ | exact ⟨rfl, trivial⟩ | exact ⟨rfl, rfl, trivial⟩ | exact ⟨⟨rfl, rfl, rfl, rfl⟩, trivial⟩ | (show (_ : Int) ≤ _ ∧ (_ : Int) ≤ _; omega) | (show (_ : Int) ≤ _; omega) | (simp only [EL.len, EL.sz, EL.take, EL.drop, maxL, la, ln, lc, ld, lt, ls, lna]; with_reducible first | omega | exact rngI (by omega) | (and_intros <;> first | trivial | omega | exact rngI (by omega))) | (simp only [EL.len, EL.sz, EL.take, EL.drop, maxL, la, ln, lc, ld, lt, ls, lna] at *; with_reducible first | omega | exact rngI (by omega) | (and_intros <;> first | trivial | omega | exact rngI (by omega))))) | (refine End.mk ?_; exact hF) | refine End.mk ?_ | refine brT ?_ | refine brF ?_ | (refine brT' ?_ ?_; focus with_reducible assumption) | (refine brF' ?_ ?_; focus with_reducible assumption) | (refine Br.mk ?_ ?_ <;> (intro hb; have h := hb; (try simp only [decide_eq_true_eq, decide_eq_false_iff_not, Bool.not_eq_true', Bool.not_eq_false', Bool.not_eq_eq_eq_not, Bool.not_true, Bool.not_false, ge_iff_le, gt_iff_lt, Bool.and_eq_true, Bool.and_eq_false_iff, Bool.or_eq_true, Bool.or_eq_false_iff, beq_self_eq_true, not_true_eq_false, and_self, Bool.true_eq_false, Bool.false_eq_true, not_false_eq_true] at h); (try dsimp only [EL.len] at h); (try (exfalso; first | omega | exact bnF h (by with_reducible assumption) | exact bnT h (by with_reducible assumption))))) | (refine fun (y : Int) (h0 : 0 ≤ y) h1 => ?_)))
  · (refine Exists.intro _ (And.intro ?_ hK); repeat' (first | (refine Side.mk ?_ ?_; focus (first | with_reducible exact rfl | exact Eq.refl true | exact Eq.refl false)) | (refine Side.mk ?_ ?_) | exact True.intro))
    exact (rcvV_no (fun e => by rw [allG_false l k (by omega) (by simpa using h)] at e; exact absurd e.2.2.2.2 (by simp))).symm
  · have h2 : allG (l.take (k + 1)) = true := by rw [allG_take_succ l k (by omega), hk2]; simpa using h
    (refine Exists.intro ⟨k + 1, by omega, h2⟩ (Exists.intro [0] (And.intro ?_ ?_)))
    · show l.length - (k + 1) < l.length - k
      omega
    · repeat' (first | (refine Side.mk ?_ ?_; focus (first | kernel_rfl | exact rfl | exact ⟨rfl, trivial⟩ | exact fun _ h => h | exact ⟨⟨rfl, rfl, rfl, rfl⟩, trivial⟩ | exact ⟨⟨rfl, rfl⟩, rfl, rfl⟩ | exact ⟨rfl, rfl, trivial⟩)) | exact True.intro)
  all_goals
    rw [List.take_of_length_le (by omega)] at hk2
    (refine Exists.intro _ (And.intro ?_ hK); repeat' (first | (refine Side.mk ?_ ?_; focus (first | with_reducible exact rfl | exact Eq.refl true | exact Eq.refl false)) | (refine Side.mk ?_ ?_) | exact True.intro))
    first
    | exact (rcvV_no (by omega)).symm
    | (simp_all [rcvV]; done)
    | (simp_all [rcvV]; intros; omega)
def c_s_RecvValid : CS := csOf [.inr [.int, .int, .gots, .bool, .int]] (fun ⟨⟨r, t, l, o, a, _⟩, _⟩ K => K (.l (.v (.bool (rcvV ⟨r, t, l, o, a⟩)))))
theorem c_s_RecvValid_ok : CSok Tryd.prog 52 c_s_RecvValid := cs_ok (by kernel_rfl) con_s_RecvValid



end Go.Proofs.YtkhggobpanfkfaaDoor
