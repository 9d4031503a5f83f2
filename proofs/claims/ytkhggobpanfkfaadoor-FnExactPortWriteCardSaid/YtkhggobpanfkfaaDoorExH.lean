/-
  What the exact laws do with receivers: sizes, copies, comparisons, marks.
-/
import Derived.Test.YtkhggobpanfkfaaDoorExG
namespace Go.Proofs.YtkhggobpanfkfaaDoor
open Go.RowKit
open Ab
set_option linter.unusedSimpArgs false
set_option linter.unusedVariables false

def gotsD (l : List (Int × Int)) : DV := .l (.s 78 (.gots l))
theorem gots_set_succ (l m : List (Int × Int)) (k : Nat) (hk : k < l.length) (hm : m = l.take k ++ List.replicate (l.length - k) (0, 0)) : m.set k (l.getD k (0, 0)) = l.take (k + 1) ++ List.replicate (l.length - (k + 1)) (0, 0) := by
  have hlen : (l.take k).length = k := by rw [List.length_take]; omega
  have e : l.take (k + 1) = l.take k ++ [l[k]] := by rw [List.take_add_one, List.getElem?_eq_getElem hk]; rfl
  rw [hm, List.set_append_right _ _ (by omega), hlen, Nat.sub_self, show l.length - k = (l.length - (k + 1)) + 1 by omega, List.replicate_succ, List.set_cons_zero, e, List.append_assoc, List.getD_eq_getElem?_getD, List.getElem?_eq_getElem hk]
  rfl

def env_l_szGotS : Env := []
theorem env_l_szGotS_ok : EnvOk Tryd.prog env_l_szGotS := envAll_ok trivial
def tr_l_szGotS : Nat → Tr := fun n => match n with
  | _ => .nil
def c_l_szGotS : CS := csN tab env_l_szGotS tr_l_szGotS Tryd.f48
theorem c_l_szGotS_ok : CSok Tryd.prog 48 c_l_szGotS := csN_ok tab_ok mixed_ok env_l_szGotS_ok Tryd.func48 (by kernel_rfl)
def env_l_szReceiver : Env := [(48, c_l_szGotS)]
theorem env_l_szReceiver_ok : EnvOk Tryd.prog env_l_szReceiver := envAll_ok ⟨c_l_szGotS_ok, trivial⟩
def tr_l_szReceiver : Nat → Tr := fun n => match n with
  | _ => .nil
def c_l_szReceiver : CS := csN tab env_l_szReceiver tr_l_szReceiver Tryd.f15
theorem c_l_szReceiver_ok : CSok Tryd.prog 15 c_l_szReceiver := csN_ok tab_ok mixed_ok env_l_szReceiver_ok Tryd.func15 (by kernel_rfl)

def env_l_toGot : Env := []
theorem env_l_toGot_ok : EnvOk Tryd.prog env_l_toGot := envAll_ok trivial
def tr_l_toGot : Nat → Tr := fun n => match n with
  | _ => .nil
set_option maxRecDepth 100000 in
set_option maxHeartbeats 2000000 in
theorem con_l_toGot : Con Tryd.prog 89 [.inr [.int, .int]] (fun ⟨⟨a, b, _⟩, _⟩ K => K (.a (gotD (a, b)))) := by
  refine con_ofN (TR := tr_l_toGot) tab_ok mixed_ok env_l_toGot_ok Tryd.func89 rfl ?_
  rintro ⟨⟨(a : Int), (b : Int), _⟩, _⟩ K hK _
  replace hK : K (.a (gotD (a, b))) := hK
  repeat' ((conv => whnf); (first | (refine Side.mk ?_ ?_; focus (first | omega | with_reducible assumption | kernel_rfl | exact rfl | (with_reducible first | omega | exact rngI (by omega) | (and_intros <;> first | trivial | omega | exact rngI (by omega))) | (dsimp only [EL.len]; with_reducible first | omega | exact rngI (by omega) | (and_intros <;> first | trivial | omega | exact rngI (by omega))) | with_reducible exact rngB (by omega) | with_reducible exact rngI ⟨by decide, by decide⟩ | exact ⟨rfl, trivial⟩ | exact ⟨rfl, rfl, trivial⟩ | exact ⟨⟨rfl, rfl, rfl, rfl⟩, trivial⟩ | (show (_ : Int) ≤ _ ∧ (_ : Int) ≤ _; omega) | (show (_ : Int) ≤ _; omega) | (simp only [EL.len, EL.sz, EL.take, EL.drop, maxL, la, ln, lc, ld, lt, ls, lna]; with_reducible first | omega | exact rngI (by omega) | (and_intros <;> first | trivial | omega | exact rngI (by omega))) | (simp only [EL.len, EL.sz, EL.take, EL.drop, maxL, la, ln, lc, ld, lt, ls, lna] at *; with_reducible first | omega | exact rngI (by omega) | (and_intros <;> first | trivial | omega | exact rngI (by omega))))) | (refine End.mk ?_; exact hF) | refine End.mk ?_ | refine brT ?_ | refine brF ?_ | (refine brT' ?_ ?_; focus with_reducible assumption) | (refine brF' ?_ ?_; focus with_reducible assumption) | (refine Br.mk ?_ ?_ <;> (intro hb; have h := hb; (try simp only [decide_eq_true_eq, decide_eq_false_iff_not, Bool.not_eq_true', Bool.not_eq_false', Bool.not_eq_eq_eq_not, Bool.not_true, Bool.not_false, ge_iff_le, gt_iff_lt, Bool.and_eq_true, Bool.and_eq_false_iff, Bool.or_eq_true, Bool.or_eq_false_iff, beq_self_eq_true, not_true_eq_false, and_self, Bool.true_eq_false, Bool.false_eq_true, not_false_eq_true] at h); (try dsimp only [EL.len] at h); (try (exfalso; first | omega | exact bnF h (by with_reducible assumption) | exact bnT h (by with_reducible assumption))))) | (refine fun (y : Int) (h0 : 0 ≤ y) h1 => ?_)))
  (refine Exists.intro _ (And.intro ?_ hK); repeat' (first | (refine Side.mk ?_ ?_; focus (first | with_reducible exact rfl | exact Eq.refl true | exact Eq.refl false)) | (refine Side.mk ?_ ?_) | exact True.intro))
def c_l_toGot : CS := csOf [.inr [.int, .int]] (fun ⟨⟨a, b, _⟩, _⟩ K => K (.a (gotD (a, b))))
theorem c_l_toGot_ok : CSok Tryd.prog 89 c_l_toGot := cs_ok (by kernel_rfl) con_l_toGot

def env_l_toGotS : Env := [(89, c_l_toGot)]
theorem env_l_toGotS_ok : EnvOk Tryd.prog env_l_toGotS := envAll_ok ⟨c_l_toGot_ok, trivial⟩
def tr_l_toGotS : Nat → Tr := fun n => match n with
  | _ => .nil
set_option maxRecDepth 100000 in
set_option maxHeartbeats 2000000 in
theorem con_l_toGotS : Con Tryd.prog 54 [.inl .gots] (fun ⟨l, _⟩ K => K (gotsD l)) := by
  refine con_ofN (TR := tr_l_toGotS) tab_ok mixed_ok env_l_toGotS_ok Tryd.func54 rfl ?_
  rintro ⟨(l : List (Int × Int)), _⟩ K hK ⟨hl, _⟩
  replace hK : K (gotsD l) := hK
  replace hl : l.length ≤ 1099511627776 := hl
  repeat' ((conv => whnf); (first | (refine Side.mk ?_ ?_; focus (first | omega | with_reducible assumption | kernel_rfl | exact rfl | (with_reducible first | omega | exact rngI (by omega) | (and_intros <;> first | trivial | omega | exact rngI (by omega))) | (dsimp only [EL.len]; with_reducible first | omega | exact rngI (by omega) | (and_intros <;> first | trivial | omega | exact rngI (by omega))) | with_reducible exact rngB (by omega) | with_reducible exact rngI ⟨by decide, by decide⟩ | exact ⟨rfl, trivial⟩ | exact ⟨rfl, rfl, trivial⟩ | exact ⟨⟨rfl, rfl, rfl, rfl⟩, trivial⟩ | (show (_ : Int) ≤ _ ∧ (_ : Int) ≤ _; omega) | (show (_ : Int) ≤ _; omega) | (simp only [EL.len, EL.sz, EL.take, EL.drop, maxL, la, ln, lc, ld, lt, ls, lna]; with_reducible first | omega | exact rngI (by omega) | (and_intros <;> first | trivial | omega | exact rngI (by omega))) | (simp only [EL.len, EL.sz, EL.take, EL.drop, maxL, la, ln, lc, ld, lt, ls, lna] at *; with_reducible first | omega | exact rngI (by omega) | (and_intros <;> first | trivial | omega | exact rngI (by omega))))) | (refine End.mk ?_; exact hF) | refine End.mk ?_ | refine brT ?_ | refine brF ?_ | (refine brT' ?_ ?_; focus with_reducible assumption) | (refine brF' ?_ ?_; focus with_reducible assumption) | (refine Br.mk ?_ ?_ <;> (intro hb; have h := hb; (try simp only [decide_eq_true_eq, decide_eq_false_iff_not, Bool.not_eq_true', Bool.not_eq_false', Bool.not_eq_eq_eq_not, Bool.not_true, Bool.not_false, ge_iff_le, gt_iff_lt, Bool.and_eq_true, Bool.and_eq_false_iff, Bool.or_eq_true, Bool.or_eq_false_iff, beq_self_eq_true, not_true_eq_false, and_self, Bool.true_eq_false, Bool.false_eq_true, not_false_eq_true] at h); (try dsimp only [EL.len] at h); (try (exfalso; first | omega | exact bnF h (by with_reducible assumption) | exact bnT h (by with_reducible assumption))))) | (refine fun (y : Int) (h0 : 0 ≤ y) h1 => ?_)))
  refine LoopG.inv {s : Nat × List (Int × Int) // s.1 ≤ l.length ∧ s.2 = l.take s.1 ++ List.replicate (l.length - s.1) (0, 0)} (fun ⟨(k, _), _⟩ => [(4, .l (.v (.int .i64 k)))]) (fun ⟨(_, q), _⟩ => [(0, .r 0 78 (.gots q))]) (fun ⟨(k, _), _⟩ => l.length - k) ⟨(0, List.replicate l.length (0, 0)), Nat.zero_le _, rfl⟩ [0] ?_ ?_
  · repeat' (first | (refine Side.mk ?_ ?_; focus (first | kernel_rfl | exact rfl | exact ⟨rfl, trivial⟩ | exact fun _ h => h | exact ⟨⟨rfl, rfl, rfl, rfl⟩, trivial⟩ | exact ⟨⟨rfl, rfl⟩, rfl, rfl⟩ | exact ⟨rfl, rfl, trivial⟩)) | exact True.intro)
  rintro ⟨⟨k, q⟩, hk, hq⟩
  have gk : k ≤ l.length := hk
  have gq : q = l.take k ++ List.replicate (l.length - k) (0, 0) := hq
  have gl : q.length = l.length := by rw [gq]; simp; omega
  repeat' ((conv => whnf); (first | (refine Side.mk ?_ ?_; focus (first | omega | with_reducible assumption | kernel_rfl | exact rfl | (with_reducible first | omega | exact rngI (by omega) | (and_intros <;> first | trivial | omega | exact rngI (by omega))) | (dsimp only [EL.len]; with_reducible first | omega | exact rngI (by omega) | (and_intros <;> first | trivial | omega | exact rngI (by omega))) | with_reducible exact rngB (by omega) | with_reducible exact rngI ⟨by decide, by decide⟩ | exact ⟨rfl, trivial⟩ | exact ⟨rfl, rfl, trivial⟩ | exact ⟨⟨rfl, rfl, rfl, rfl⟩, trivial⟩ | (show (_ : Int) ≤ _ ∧ (_ : Int) ≤ _; omega) | (show (_ : Int) ≤ _; omega) | (simp only [EL.len, EL.sz, EL.take, EL.drop, maxL, la, ln, lc, ld, lt, ls, lna]; with_reducible first | omega | exact rngI (by omega) | (and_intros <;> first | trivial | omega | exact rngI (by omega))) | (simp only [EL.len, EL.sz, EL.take, EL.drop, maxL, la, ln, lc, ld, lt, ls, lna] at *; with_reducible first | omega | exact rngI (by omega) | (and_intros <;> first | trivial | omega | exact rngI (by omega))))) | (refine End.mk ?_; exact hF) | refine End.mk ?_ | refine brT ?_ | refine brF ?_ | (refine brT' ?_ ?_; focus with_reducible assumption) | (refine brF' ?_ ?_; focus with_reducible assumption) | (refine Br.mk ?_ ?_ <;> (intro hb; have h := hb; (try simp only [decide_eq_true_eq, decide_eq_false_iff_not, Bool.not_eq_true', Bool.not_eq_false', Bool.not_eq_eq_eq_not, Bool.not_true, Bool.not_false, ge_iff_le, gt_iff_lt, Bool.and_eq_true, Bool.and_eq_false_iff, Bool.or_eq_true, Bool.or_eq_false_iff, beq_self_eq_true, not_true_eq_false, and_self, Bool.true_eq_false, Bool.false_eq_true, not_false_eq_true] at h); (try dsimp only [EL.len] at h); (try (exfalso; first | omega | exact bnF h (by with_reducible assumption) | exact bnT h (by with_reducible assumption))))) | (refine fun (y : Int) (h0 : 0 ≤ y) h1 => ?_)))
  · have hlt : k < l.length := Int.ofNat_lt.1 h
    have e2 : q.set k (l.getD k (0, 0)) = l.take (k + 1) ++ List.replicate (l.length - (k + 1)) (0, 0) := gots_set_succ l q k hlt gq
    (refine Exists.intro ⟨(k + 1, q.set k (l.getD k (0, 0))), hlt, e2⟩ (Exists.intro [0] (And.intro ?_ ?_)))
    · show l.length - (k + 1) < l.length - k
      omega
    · repeat' (first | (refine Side.mk ?_ ?_; focus (first | kernel_rfl | exact rfl | exact ⟨rfl, trivial⟩ | exact fun _ h => h | exact ⟨⟨rfl, rfl, rfl, rfl⟩, trivial⟩ | exact ⟨⟨rfl, rfl⟩, rfl, rfl⟩ | exact ⟨rfl, rfl, trivial⟩)) | exact True.intro)
  · (refine Exists.intro _ (And.intro ?_ hK); repeat' (first | (refine Side.mk ?_ ?_; focus (first | with_reducible exact rfl | exact Eq.refl true | exact Eq.refl false)) | (refine Side.mk ?_ ?_) | exact True.intro))
    have : k = l.length := by omega
    rw [gq, this]
    simp
def c_l_toGotS : CS := csOf [.inl .gots] (fun ⟨l, _⟩ K => K (gotsD l))
theorem c_l_toGotS_ok : CSok Tryd.prog 54 c_l_toGotS := cs_ok (by kernel_rfl) con_l_toGotS

def env_l_toReceiver : Env := [(54, c_l_toGotS)]
theorem env_l_toReceiver_ok : EnvOk Tryd.prog env_l_toReceiver := envAll_ok ⟨c_l_toGotS_ok, trivial⟩
def tr_l_toReceiver : Nat → Tr := fun n => match n with
  | _ => .nil
set_option maxRecDepth 100000 in
set_option maxHeartbeats 2000000 in
theorem con_l_toReceiver : Con Tryd.prog 22 [.inr [.int, .int, .gots, .bool, .int]] (fun ⟨⟨r, t, l, o, a, _⟩, _⟩ K => K (.a (Rcv.d ⟨r, t, l, o, a⟩))) := by
  refine con_ofN (TR := tr_l_toReceiver) tab_ok mixed_ok env_l_toReceiver_ok Tryd.func22 rfl ?_
  rintro ⟨⟨(r : Int), (t : Int), (l : List (Int × Int)), (o : Bool), (a : Int), _⟩, _⟩ K hK ⟨⟨_, _, hl, _⟩, _⟩
  replace hK : K (.a (Rcv.d ⟨r, t, l, o, a⟩)) := hK
  replace hl : l.length ≤ 1099511627776 := hl
  repeat' ((conv => whnf); (first | (refine Side.mk ?_ ?_; focus (first | omega | with_reducible assumption | kernel_rfl | exact rfl | (with_reducible first | omega | exact rngI (by omega) | (and_intros <;> first | trivial | omega | exact rngI (by omega))) | (dsimp only [EL.len]; with_reducible first | omega | exact rngI (by omega) | (and_intros <;> first | trivial | omega | exact rngI (by omega))) | with_reducible exact rngB (by omega) | with_reducible exact rngI ⟨by decide, by decide⟩ | exact ⟨rfl, trivial⟩ | exact ⟨rfl, rfl, trivial⟩ | exact ⟨⟨rfl, rfl, rfl, rfl⟩, trivial⟩ | (show (_ : Int) ≤ _ ∧ (_ : Int) ≤ _; omega) | (show (_ : Int) ≤ _; omega) | (simp only [EL.len, EL.sz, EL.take, EL.drop, maxL, la, ln, lc, ld, lt, ls, lna]; with_reducible first | omega | exact rngI (by omega) | (and_intros <;> first | trivial | omega | exact rngI (by omega))) | (simp only [EL.len, EL.sz, EL.take, EL.drop, maxL, la, ln, lc, ld, lt, ls, lna] at *; with_reducible first | omega | exact rngI (by omega) | (and_intros <;> first | trivial | omega | exact rngI (by omega))))) | (refine End.mk ?_; exact hF) | refine End.mk ?_ | refine brT ?_ | refine brF ?_ | (refine brT' ?_ ?_; focus with_reducible assumption) | (refine brF' ?_ ?_; focus with_reducible assumption) | (refine Br.mk ?_ ?_ <;> (intro hb; have h := hb; (try simp only [decide_eq_true_eq, decide_eq_false_iff_not, Bool.not_eq_true', Bool.not_eq_false', Bool.not_eq_eq_eq_not, Bool.not_true, Bool.not_false, ge_iff_le, gt_iff_lt, Bool.and_eq_true, Bool.and_eq_false_iff, Bool.or_eq_true, Bool.or_eq_false_iff, beq_self_eq_true, not_true_eq_false, and_self, Bool.true_eq_false, Bool.false_eq_true, not_false_eq_true] at h); (try dsimp only [EL.len] at h); (try (exfalso; first | omega | exact bnF h (by with_reducible assumption) | exact bnT h (by with_reducible assumption))))) | (refine fun (y : Int) (h0 : 0 ≤ y) h1 => ?_)))
  (refine Exists.intro _ (And.intro ?_ hK); repeat' (first | (refine Side.mk ?_ ?_; focus (first | with_reducible exact rfl | exact Eq.refl true | exact Eq.refl false)) | (refine Side.mk ?_ ?_) | exact True.intro))
  all_goals rfl
def c_l_toReceiver : CS := csOf [.inr [.int, .int, .gots, .bool, .int]] (fun ⟨⟨r, t, l, o, a, _⟩, _⟩ K => K (.a (Rcv.d ⟨r, t, l, o, a⟩)))
theorem c_l_toReceiver_ok : CSok Tryd.prog 22 c_l_toReceiver := cs_ok (by kernel_rfl) con_l_toReceiver

def env_l_eqGot : Env := []
theorem env_l_eqGot_ok : EnvOk Tryd.prog env_l_eqGot := envAll_ok trivial
def tr_l_eqGot : Nat → Tr := fun n => match n with
  | _ => .nil
set_option maxRecDepth 100000 in
set_option maxHeartbeats 2000000 in
theorem con_l_eqGot : Con Tryd.prog 97 [.inr [.int, .int], .inr [.int, .int]] (fun ⟨⟨a, b, _⟩, ⟨c, d, _⟩, _⟩ K => K (.l (.v (.bool (decide (a = c ∧ b = d)))))) := by
  refine con_ofN (TR := tr_l_eqGot) tab_ok mixed_ok env_l_eqGot_ok Tryd.func97 rfl ?_
  rintro ⟨⟨(a : Int), (b : Int), _⟩, ⟨(c : Int), (d : Int), _⟩, _⟩ K hK _
  replace hK : K (.l (.v (.bool (decide (a = c ∧ b = d))))) := hK
  repeat' ((conv => whnf); (first | (refine Side.mk ?_ ?_; focus (first | omega | with_reducible assumption | kernel_rfl | exact rfl | (with_reducible first | omega | exact rngI (by omega) | (and_intros <;> first | trivial | omega | exact rngI (by omega))) | (dsimp only [EL.len]; with_reducible first | omega | exact rngI (by omega) | (and_intros <;> first | trivial | omega | exact rngI (by omega))) | with_reducible exact rngB (by omega) | with_reducible exact rngI ⟨by decide, by decide⟩ | exact ⟨rfl, trivial⟩ | exact ⟨rfl, rfl, trivial⟩ | exact ⟨⟨rfl, rfl, rfl, rfl⟩, trivial⟩ | (show (_ : Int) ≤ _ ∧ (_ : Int) ≤ _; omega) | (show (_ : Int) ≤ _; omega) | (simp only [EL.len, EL.sz, EL.take, EL.drop, maxL, la, ln, lc, ld, lt, ls, lna]; with_reducible first | omega | exact rngI (by omega) | (and_intros <;> first | trivial | omega | exact rngI (by omega))) | (simp only [EL.len, EL.sz, EL.take, EL.drop, maxL, la, ln, lc, ld, lt, ls, lna] at *; with_reducible first | omega | exact rngI (by omega) | (and_intros <;> first | trivial | omega | exact rngI (by omega))))) | (refine End.mk ?_; exact hF) | refine End.mk ?_ | refine brT ?_ | refine brF ?_ | (refine brT' ?_ ?_; focus with_reducible assumption) | (refine brF' ?_ ?_; focus with_reducible assumption) | (refine Br.mk ?_ ?_ <;> (intro hb; have h := hb; (try simp only [decide_eq_true_eq, decide_eq_false_iff_not, Bool.not_eq_true', Bool.not_eq_false', Bool.not_eq_eq_eq_not, Bool.not_true, Bool.not_false, ge_iff_le, gt_iff_lt, Bool.and_eq_true, Bool.and_eq_false_iff, Bool.or_eq_true, Bool.or_eq_false_iff, beq_self_eq_true, not_true_eq_false, and_self, Bool.true_eq_false, Bool.false_eq_true, not_false_eq_true] at h); (try dsimp only [EL.len] at h); (try (exfalso; first | omega | exact bnF h (by with_reducible assumption) | exact bnT h (by with_reducible assumption))))) | (refine fun (y : Int) (h0 : 0 ≤ y) h1 => ?_)))
  all_goals
    (refine Exists.intro _ (And.intro ?_ hK); repeat' (first | (refine Side.mk ?_ ?_; focus (first | with_reducible exact rfl | exact Eq.refl true | exact Eq.refl false)) | (refine Side.mk ?_ ?_) | exact True.intro))
    simp_all
def c_l_eqGot : CS := csOf [.inr [.int, .int], .inr [.int, .int]] (fun ⟨⟨a, b, _⟩, ⟨c, d, _⟩, _⟩ K => K (.l (.v (.bool (decide (a = c ∧ b = d))))))
theorem c_l_eqGot_ok : CSok Tryd.prog 97 c_l_eqGot := cs_ok (by kernel_rfl) con_l_eqGot

def env_l_eqGotS : Env := [(97, c_l_eqGot)]
theorem env_l_eqGotS_ok : EnvOk Tryd.prog env_l_eqGotS := envAll_ok ⟨c_l_eqGot_ok, trivial⟩
def tr_l_eqGotS : Nat → Tr := fun n => match n with
  | 6 => .op 0 0 (.op 1 0 (.op 2 0 (.op 3 0 (.op 4 0 (.op 5 1 (.op 6 1 (.op 7 1 (.op 8 1 (.op 9 1 (.nil))))))))))
  | _ => .nil
set_option maxRecDepth 100000 in
set_option maxHeartbeats 2000000 in
theorem con_l_eqGotS : Con Tryd.prog 65 [.inl .gots, .inl .gots] (fun ⟨a, b, _⟩ K => K (.l (.v (.bool (decide (a = b)))))) := by
  refine con_ofN (TR := tr_l_eqGotS) tab_ok mixed_ok env_l_eqGotS_ok Tryd.func65 rfl ?_
  rintro ⟨(a : List (Int × Int)), (b : List (Int × Int)), _⟩ K hK ⟨hla, hlb, _⟩
  replace hK : K (.l (.v (.bool (decide (a = b))))) := hK
  replace hla : a.length ≤ 1099511627776 := hla
  replace hlb : b.length ≤ 1099511627776 := hlb
  repeat' ((conv => whnf); (first | (refine Side.mk ?_ ?_; focus (first | omega | with_reducible assumption | kernel_rfl | exact rfl | (with_reducible first | omega | exact rngI (by omega) | (and_intros <;> first | trivial | omega | exact rngI (by omega))) | (dsimp only [EL.len]; with_reducible first | omega | exact rngI (by omega) | (and_intros <;> first | trivial | omega | exact rngI (by omega))) | with_reducible exact rngB (by omega) | with_reducible exact rngI ⟨by decide, by decide⟩ | exact ⟨rfl, trivial⟩ | exact ⟨rfl, rfl, trivial⟩ | exact ⟨⟨rfl, rfl, rfl, rfl⟩, trivial⟩ | (show (_ : Int) ≤ _ ∧ (_ : Int) ≤ _; omega) | (show (_ : Int) ≤ _; omega) | (simp only [EL.len, EL.sz, EL.take, EL.drop, maxL, la, ln, lc, ld, lt, ls, lna]; with_reducible first | omega | exact rngI (by omega) | (and_intros <;> first | trivial | omega | exact rngI (by omega))) | (simp only [EL.len, EL.sz, EL.take, EL.drop, maxL, la, ln, lc, ld, lt, ls, lna] at *; with_reducible first | omega | exact rngI (by omega) | (and_intros <;> first | trivial | omega | exact rngI (by omega))))) | (refine End.mk ?_; exact hF) | refine End.mk ?_ | refine brT ?_ | refine brF ?_ | (refine brT' ?_ ?_; focus with_reducible assumption) | (refine brF' ?_ ?_; focus with_reducible assumption) | (refine Br.mk ?_ ?_ <;> (intro hb; have h := hb; (try simp only [decide_eq_true_eq, decide_eq_false_iff_not, Bool.not_eq_true', Bool.not_eq_false', Bool.not_eq_eq_eq_not, Bool.not_true, Bool.not_false, ge_iff_le, gt_iff_lt, Bool.and_eq_true, Bool.and_eq_false_iff, Bool.or_eq_true, Bool.or_eq_false_iff, beq_self_eq_true, not_true_eq_false, and_self, Bool.true_eq_false, Bool.false_eq_true, not_false_eq_true] at h); (try dsimp only [EL.len] at h); (try (exfalso; first | omega | exact bnF h (by with_reducible assumption) | exact bnT h (by with_reducible assumption))))) | (refine fun (y : Int) (h0 : 0 ≤ y) h1 => ?_)))
  · (refine Exists.intro _ (And.intro ?_ hK); repeat' (first | (refine Side.mk ?_ ?_; focus (first | with_reducible exact rfl | exact Eq.refl true | exact Eq.refl false)) | (refine Side.mk ?_ ?_) | exact True.intro))
    exact (decide_eq_false (fun e => h (by rw [e]))).symm
  · repeat' ((conv => whnf); (first | (refine Side.mk ?_ ?_; focus (first | omega | with_reducible assumption | kernel_rfl | exact rfl | (with_reducible first | omega | exact rngI (by omega) | (and_intros <;> first | trivial | omega | exact rngI (by omega))) | (dsimp only [EL.len]; with_reducible first | omega | exact rngI (by omega) | (and_intros <;> first | trivial | omega | exact rngI (by omega))) | with_reducible exact rngB (by omega) | with_reducible exact rngI ⟨by decide, by decide⟩ | exact ⟨rfl, trivial⟩ | exact ⟨rfl, rfl, trivial⟩ | exact ⟨⟨rfl, rfl, rfl, rfl⟩, trivial⟩ | (show (_ : Int) ≤ _ ∧ (_ : Int) ≤ _; omega) | (show (_ : Int) ≤ _; omega) | (simp only [EL.len, EL.sz, EL.take, EL.drop, maxL, la, ln, lc, ld, lt, ls, lna]; with_reducible first | omega | exact rngI (by omega) | (and_intros <;> first | trivial | omega | exact rngI (by omega))) | (simp only [EL.len, EL.sz, EL.take, EL.drop, maxL, la, ln, lc, ld, lt, ls, lna] at *; with_reducible first | omega | exact rngI (by omega) | (and_intros <;> first | trivial | omega | exact rngI (by omega))))) | (refine End.mk ?_; exact hF) | refine End.mk ?_ | refine brT ?_ | refine brF ?_ | (refine brT' ?_ ?_; focus with_reducible assumption) | (refine brF' ?_ ?_; focus with_reducible assumption) | (refine Br.mk ?_ ?_ <;> (intro hb; have h := hb; (try simp only [decide_eq_true_eq, decide_eq_false_iff_not, Bool.not_eq_true', Bool.not_eq_false', Bool.not_eq_eq_eq_not, Bool.not_true, Bool.not_false, ge_iff_le, gt_iff_lt, Bool.and_eq_true, Bool.and_eq_false_iff, Bool.or_eq_true, Bool.or_eq_false_iff, beq_self_eq_true, not_true_eq_false, and_self, Bool.true_eq_false, Bool.false_eq_true, not_false_eq_true] at h); (try dsimp only [EL.len] at h); (try (exfalso; first | omega | exact bnF h (by with_reducible assumption) | exact bnT h (by with_reducible assumption))))) | (refine fun (y : Int) (h0 : 0 ≤ y) h1 => ?_)))
    refine LoopG.inv {k : Nat // k ≤ a.length ∧ a.take k = b.take k} (fun ⟨k, _⟩ => [(5, .l (.v (.int .i64 k)))]) (fun _ => []) (fun ⟨k, _⟩ => a.length - k) ⟨0, Nat.zero_le _, rfl⟩ [] ?_ ?_
    · repeat' (first | (refine Side.mk ?_ ?_; focus (first | kernel_rfl | exact rfl | exact ⟨rfl, trivial⟩ | exact fun _ h => h | exact ⟨⟨rfl, rfl, rfl, rfl⟩, trivial⟩ | exact ⟨⟨rfl, rfl⟩, rfl, rfl⟩ | exact ⟨rfl, rfl, trivial⟩)) | exact True.intro)
    rintro ⟨k, hk, hk2⟩
    repeat' ((conv => whnf); (first | (refine Side.mk ?_ ?_; focus (first | omega | with_reducible assumption | kernel_rfl | exact rfl | (with_reducible first | omega | exact rngI (by omega) | (and_intros <;> first | trivial | omega | exact rngI (by omega))) | (dsimp only [EL.len]; with_reducible first | omega | exact rngI (by omega) | (and_intros <;> first | trivial | omega | exact rngI (by omega))) | with_reducible exact rngB (by omega) | with_reducible exact rngI ⟨by decide, by decide⟩ | exact ⟨rfl, trivial⟩ | exact ⟨rfl, rfl, trivial⟩ | exact ⟨⟨rfl, rfl, rfl, rfl⟩, trivial⟩ | (show (_ : Int) ≤ _ ∧ (_ : Int) ≤ _; omega) | (show (_ : Int) ≤ _; omega) | (simp only [EL.len, EL.sz, EL.take, EL.drop, maxL, la, ln, lc, ld, lt, ls, lna]; with_reducible first | omega | exact rngI (by omega) | (and_intros <;> first | trivial | omega | exact rngI (by omega))) | (simp only [EL.len, EL.sz, EL.take, EL.drop, maxL, la, ln, lc, ld, lt, ls, lna] at *; with_reducible first | omega | exact rngI (by omega) | (and_intros <;> first | trivial | omega | exact rngI (by omega))))) | (refine End.mk ?_; exact hF) | refine End.mk ?_ | refine brT ?_ | refine brF ?_ | (refine brT' ?_ ?_; focus with_reducible assumption) | (refine brF' ?_ ?_; focus with_reducible assumption) | (refine Br.mk ?_ ?_ <;> (intro hb; have h := hb; (try simp only [decide_eq_true_eq, decide_eq_false_iff_not, Bool.not_eq_true', Bool.not_eq_false', Bool.not_eq_eq_eq_not, Bool.not_true, Bool.not_false, ge_iff_le, gt_iff_lt, Bool.and_eq_true, Bool.and_eq_false_iff, Bool.or_eq_true, Bool.or_eq_false_iff, beq_self_eq_true, not_true_eq_false, and_self, Bool.true_eq_false, Bool.false_eq_true, not_false_eq_true] at h); (try dsimp only [EL.len] at h); (try (exfalso; first | omega | exact bnF h (by with_reducible assumption) | exact bnT h (by with_reducible assumption))))) | (refine fun (y : Int) (h0 : 0 ≤ y) h1 => ?_)))
    · (refine Exists.intro _ (And.intro ?_ hK); repeat' (first | (refine Side.mk ?_ ?_; focus (first | with_reducible exact rfl | exact Eq.refl true | exact Eq.refl false)) | (refine Side.mk ?_ ?_) | exact True.intro))
      refine (decide_eq_false (fun e => ?_)).symm
      subst e
      simp at h
    · have h2 : a.take (k + 1) = b.take (k + 1) := by
        rw [Int.toNat_natCast] at h
        exact got_succ_eq (by omega) (by omega) hk2 (Prod.ext h.1 h.2)
      (refine Exists.intro ⟨k + 1, by omega, h2⟩ (Exists.intro [] (And.intro ?_ ?_)))
      · show a.length - (k + 1) < a.length - k
        omega
      · repeat' (first | (refine Side.mk ?_ ?_; focus (first | kernel_rfl | exact rfl | exact ⟨rfl, trivial⟩ | exact fun _ h => h | exact ⟨⟨rfl, rfl, rfl, rfl⟩, trivial⟩ | exact ⟨⟨rfl, rfl⟩, rfl, rfl⟩ | exact ⟨rfl, rfl, trivial⟩)) | exact True.intro)
    · (refine Exists.intro _ (And.intro ?_ hK); repeat' (first | (refine Side.mk ?_ ?_; focus (first | with_reducible exact rfl | exact Eq.refl true | exact Eq.refl false)) | (refine Side.mk ?_ ?_) | exact True.intro))
      rw [List.take_of_length_le (by omega), List.take_of_length_le (by omega)] at hk2
      exact (decide_eq_true hk2).symm
def c_l_eqGotS : CS := csOf [.inl .gots, .inl .gots] (fun ⟨a, b, _⟩ K => K (.l (.v (.bool (decide (a = b))))))
theorem c_l_eqGotS_ok : CSok Tryd.prog 65 c_l_eqGotS := cs_ok (by kernel_rfl) con_l_eqGotS

def env_l_eqReceiver : Env := [(65, c_l_eqGotS)]
theorem env_l_eqReceiver_ok : EnvOk Tryd.prog env_l_eqReceiver := envAll_ok ⟨c_l_eqGotS_ok, trivial⟩
def tr_l_eqReceiver : Nat → Tr := fun n => match n with
  | _ => .nil
set_option maxRecDepth 100000 in
set_option maxHeartbeats 2000000 in
theorem con_l_eqReceiver : Con Tryd.prog 30 [.inr [.int, .int, .gots, .bool, .int], .inr [.int, .int, .gots, .bool, .int]] (fun ⟨⟨r, t, l, o, a, _⟩, ⟨r2, t2, l2, o2, a2, _⟩, _⟩ K => K (.l (.v (.bool (decide (r = r2 ∧ t = t2 ∧ o = o2 ∧ a = a2 ∧ l = l2)))))) := by
  refine con_ofN (TR := tr_l_eqReceiver) tab_ok mixed_ok env_l_eqReceiver_ok Tryd.func30 rfl ?_
  rintro ⟨⟨(r : Int), (t : Int), (l : List (Int × Int)), (o : Bool), (a : Int), _⟩, ⟨(r2 : Int), (t2 : Int), (l2 : List (Int × Int)), (o2 : Bool), (a2 : Int), _⟩, _⟩ K hK _
  replace hK : K (.l (.v (.bool (decide (r = r2 ∧ t = t2 ∧ o = o2 ∧ a = a2 ∧ l = l2))))) := hK
  repeat' ((conv => whnf); (first | (refine Side.mk ?_ ?_; focus (first | omega | with_reducible assumption | kernel_rfl | exact rfl | (with_reducible first | omega | exact rngI (by omega) | (and_intros <;> first | trivial | omega | exact rngI (by omega))) | (dsimp only [EL.len]; with_reducible first | omega | exact rngI (by omega) | (and_intros <;> first | trivial | omega | exact rngI (by omega))) | with_reducible exact rngB (by omega) | with_reducible exact rngI ⟨by decide, by decide⟩ | exact ⟨rfl, trivial⟩ | exact ⟨rfl, rfl, trivial⟩ | exact ⟨⟨rfl, rfl, rfl, rfl⟩, trivial⟩ | (show (_ : Int) ≤ _ ∧ (_ : Int) ≤ _; omega) | (show (_ : Int) ≤ _; omega) | (simp only [EL.len, EL.sz, EL.take, EL.drop, maxL, la, ln, lc, ld, lt, ls, lna]; with_reducible first | omega | exact rngI (by omega) | (and_intros <;> first | trivial | omega | exact rngI (by omega))) | (simp only [EL.len, EL.sz, EL.take, EL.drop, maxL, la, ln, lc, ld, lt, ls, lna] at *; with_reducible first | omega | exact rngI (by omega) | (and_intros <;> first | trivial | omega | exact rngI (by omega))))) | (refine End.mk ?_; exact hF) | refine End.mk ?_ | refine brT ?_ | refine brF ?_ | (refine brT' ?_ ?_; focus with_reducible assumption) | (refine brF' ?_ ?_; focus with_reducible assumption) | (refine Br.mk ?_ ?_ <;> (intro hb; have h := hb; (try simp only [decide_eq_true_eq, decide_eq_false_iff_not, Bool.not_eq_true', Bool.not_eq_false', Bool.not_eq_eq_eq_not, Bool.not_true, Bool.not_false, ge_iff_le, gt_iff_lt, Bool.and_eq_true, Bool.and_eq_false_iff, Bool.or_eq_true, Bool.or_eq_false_iff, beq_self_eq_true, not_true_eq_false, and_self, Bool.true_eq_false, Bool.false_eq_true, not_false_eq_true] at h); (try dsimp only [EL.len] at h); (try (exfalso; first | omega | exact bnF h (by with_reducible assumption) | exact bnT h (by with_reducible assumption))))) | (refine fun (y : Int) (h0 : 0 ≤ y) h1 => ?_)))
  all_goals
    (refine Exists.intro _ (And.intro ?_ hK); repeat' (first | (refine Side.mk ?_ ?_; focus (first | with_reducible exact rfl | exact Eq.refl true | exact Eq.refl false)) | (refine Side.mk ?_ ?_) | exact True.intro))
    simp_all
def c_l_eqReceiver : CS := csOf [.inr [.int, .int, .gots, .bool, .int], .inr [.int, .int, .gots, .bool, .int]] (fun ⟨⟨r, t, l, o, a, _⟩, ⟨r2, t2, l2, o2, a2, _⟩, _⟩ K => K (.l (.v (.bool (decide (r = r2 ∧ t = t2 ∧ o = o2 ∧ a = a2 ∧ l = l2))))))
theorem c_l_eqReceiver_ok : CSok Tryd.prog 30 c_l_eqReceiver := cs_ok (by kernel_rfl) con_l_eqReceiver

def env_l_heldGotS : Env := []
theorem env_l_heldGotS_ok : EnvOk Tryd.prog env_l_heldGotS := envAll_ok trivial
def tr_l_heldGotS : Nat → Tr := fun n => match n with
  | _ => .nil
set_option maxRecDepth 100000 in
set_option maxHeartbeats 2000000 in
theorem con_l_heldGotS : Con Tryd.prog 69 [.inl .gots, .inl .int] (fun ⟨l, q, _⟩ K => Side (0 ≤ q ∧ q ≤ 1099511627776) <| Side (l = markG q l.length) <| K (.l (.v (.int .i64 (q + 2 * l.length))))) := by
  refine con_ofN (TR := tr_l_heldGotS) tab_ok mixed_ok env_l_heldGotS_ok Tryd.func69 rfl ?_
  rintro ⟨(l : List (Int × Int)), (q : Int), _⟩ K ⟨hq, ⟨hm, hK⟩⟩ ⟨hl, _⟩
  replace hK : K (.l (.v (.int .i64 (q + 2 * l.length)))) := hK
  replace hl : l.length ≤ 1099511627776 := hl
  replace hq : 0 ≤ q ∧ q ≤ 1099511627776 := hq
  replace hm : l = markG q l.length := hm
  repeat' ((conv => whnf); (first | (refine Side.mk ?_ ?_; focus (first | omega | with_reducible assumption | kernel_rfl | exact rfl | (with_reducible first | omega | exact rngI (by omega) | (and_intros <;> first | trivial | omega | exact rngI (by omega))) | (dsimp only [EL.len]; with_reducible first | omega | exact rngI (by omega) | (and_intros <;> first | trivial | omega | exact rngI (by omega))) | with_reducible exact rngB (by omega) | with_reducible exact rngI ⟨by decide, by decide⟩ | exact ⟨rfl, trivial⟩ | exact ⟨rfl, rfl, trivial⟩ | exact ⟨⟨rfl, rfl, rfl, rfl⟩, trivial⟩ | (show (_ : Int) ≤ _ ∧ (_ : Int) ≤ _; omega) | (show (_ : Int) ≤ _; omega) | (simp only [EL.len, EL.sz, EL.take, EL.drop, maxL, la, ln, lc, ld, lt, ls, lna]; with_reducible first | omega | exact rngI (by omega) | (and_intros <;> first | trivial | omega | exact rngI (by omega))) | (simp only [EL.len, EL.sz, EL.take, EL.drop, maxL, la, ln, lc, ld, lt, ls, lna] at *; with_reducible first | omega | exact rngI (by omega) | (and_intros <;> first | trivial | omega | exact rngI (by omega))))) | (refine End.mk ?_; exact hF) | refine End.mk ?_ | refine brT ?_ | refine brF ?_ | (refine brT' ?_ ?_; focus with_reducible assumption) | (refine brF' ?_ ?_; focus with_reducible assumption) | (refine Br.mk ?_ ?_ <;> (intro hb; have h := hb; (try simp only [decide_eq_true_eq, decide_eq_false_iff_not, Bool.not_eq_true', Bool.not_eq_false', Bool.not_eq_eq_eq_not, Bool.not_true, Bool.not_false, ge_iff_le, gt_iff_lt, Bool.and_eq_true, Bool.and_eq_false_iff, Bool.or_eq_true, Bool.or_eq_false_iff, beq_self_eq_true, not_true_eq_false, and_self, Bool.true_eq_false, Bool.false_eq_true, not_false_eq_true] at h); (try dsimp only [EL.len] at h); (try (exfalso; first | omega | exact bnF h (by with_reducible assumption) | exact bnT h (by with_reducible assumption))))) | (refine fun (y : Int) (h0 : 0 ≤ y) h1 => ?_)))
  refine LoopG.inv {s : Nat × Int // s.1 ≤ l.length ∧ s.2 = q + 2 * s.1} (fun ⟨(k, z), _⟩ => [(5, .l (.v (.int .i64 k))), (1, .l (.v (.int .i64 z)))]) (fun _ => []) (fun ⟨(k, _), _⟩ => l.length - k) ⟨(0, q), Nat.zero_le _, (show q = q + 2 * ((0 : Nat) : Int) by omega)⟩ [] ?_ ?_
  · repeat' (first | (refine Side.mk ?_ ?_; focus (first | kernel_rfl | exact rfl | exact ⟨rfl, trivial⟩ | exact fun _ h => h | exact ⟨⟨rfl, rfl, rfl, rfl⟩, trivial⟩ | exact ⟨⟨rfl, rfl⟩, rfl, rfl⟩ | exact ⟨rfl, rfl, trivial⟩)) | exact True.intro)
  rintro ⟨⟨k, z⟩, hk, hz⟩
  have gk : k ≤ l.length := hk
  have gz : z = q + 2 * k := hz
  have gm : k < l.length → l.getD (k : Int).toNat (0, 0) = (q + 2 * k, q + 2 * k + 1) := fun h => by rw [Int.toNat_natCast, hm]; exact markG_getD q l.length k h
  have gm1 : k < l.length → (l.getD (k : Int).toNat (0, 0)).1 = q + 2 * k := fun h => by rw [gm h]
  have gm2 : k < l.length → (l.getD (k : Int).toNat (0, 0)).2 = q + 2 * k + 1 := fun h => by rw [gm h]
  repeat' ((conv => whnf); (first | (refine Side.mk ?_ ?_; focus (first | omega | with_reducible assumption | kernel_rfl | exact rfl | (with_reducible first | omega | exact rngI (by omega) | (and_intros <;> first | trivial | omega | exact rngI (by omega))) | (dsimp only [EL.len]; with_reducible first | omega | exact rngI (by omega) | (and_intros <;> first | trivial | omega | exact rngI (by omega))) | with_reducible exact rngB (by omega) | with_reducible exact rngI ⟨by decide, by decide⟩ | exact ⟨rfl, trivial⟩ | exact ⟨rfl, rfl, trivial⟩ | exact ⟨⟨rfl, rfl, rfl, rfl⟩, trivial⟩ | (show (_ : Int) ≤ _ ∧ (_ : Int) ≤ _; omega) | (show (_ : Int) ≤ _; omega) | (simp only [EL.len, EL.sz, EL.take, EL.drop, maxL, la, ln, lc, ld, lt, ls, lna]; with_reducible first | omega | exact rngI (by omega) | (and_intros <;> first | trivial | omega | exact rngI (by omega))) | (simp only [EL.len, EL.sz, EL.take, EL.drop, maxL, la, ln, lc, ld, lt, ls, lna] at *; with_reducible first | omega | exact rngI (by omega) | (and_intros <;> first | trivial | omega | exact rngI (by omega))))) | (refine End.mk ?_; exact hF) | refine End.mk ?_ | refine brT ?_ | refine brF ?_ | (refine brT' ?_ ?_; focus with_reducible assumption) | (refine brF' ?_ ?_; focus with_reducible assumption) | (refine Br.mk ?_ ?_ <;> (intro hb; have h := hb; (try simp only [decide_eq_true_eq, decide_eq_false_iff_not, Bool.not_eq_true', Bool.not_eq_false', Bool.not_eq_eq_eq_not, Bool.not_true, Bool.not_false, ge_iff_le, gt_iff_lt, Bool.and_eq_true, Bool.and_eq_false_iff, Bool.or_eq_true, Bool.or_eq_false_iff, beq_self_eq_true, not_true_eq_false, and_self, Bool.true_eq_false, Bool.false_eq_true, not_false_eq_true] at h); (try dsimp only [EL.len] at h); (try (exfalso; first | omega | exact bnF h (by with_reducible assumption) | exact bnT h (by with_reducible assumption))))) | (refine fun (y : Int) (h0 : 0 ≤ y) h1 => ?_)))
  · have hlt : k < l.length := by omega
    (refine Exists.intro ⟨(k + 1, z + 1 + 1), hlt, (show z + 1 + 1 = q + 2 * ((k + 1 : Nat) : Int) by omega)⟩ (Exists.intro [] (And.intro ?_ ?_)))
    · show l.length - (k + 1) < l.length - k
      omega
    · repeat' (first | (refine Side.mk ?_ ?_; focus (first | kernel_rfl | exact rfl | exact ⟨rfl, trivial⟩ | exact fun _ h => h | exact ⟨⟨rfl, rfl, rfl, rfl⟩, trivial⟩ | exact ⟨⟨rfl, rfl⟩, rfl, rfl⟩ | exact ⟨rfl, rfl, trivial⟩)) | exact True.intro)
  · (refine Exists.intro _ (And.intro ?_ hK); repeat' (first | (refine Side.mk ?_ ?_; focus (first | with_reducible exact rfl | exact Eq.refl true | exact Eq.refl false)) | (refine Side.mk ?_ ?_) | exact True.intro))
    omega
def c_l_heldGotS : CS := csOf [.inl .gots, .inl .int] (fun ⟨l, q, _⟩ K => Side (0 ≤ q ∧ q ≤ 1099511627776) <| Side (l = markG q l.length) <| K (.l (.v (.int .i64 (q + 2 * l.length)))))
theorem c_l_heldGotS_ok : CSok Tryd.prog 69 c_l_heldGotS := cs_ok (by kernel_rfl) con_l_heldGotS

def env_l_markReceiver : Env := [(67, c_l_markGotS)]
theorem env_l_markReceiver_ok : EnvOk Tryd.prog env_l_markReceiver := envAll_ok ⟨c_l_markGotS_ok, trivial⟩
def tr_l_markReceiver : Nat → Tr := fun n => match n with
  | _ => .nil
def c_l_markReceiver : CS := csN tab env_l_markReceiver tr_l_markReceiver Tryd.f33
theorem c_l_markReceiver_ok : CSok Tryd.prog 33 c_l_markReceiver := csN_ok tab_ok mixed_ok env_l_markReceiver_ok Tryd.func33 (by kernel_rfl)
def env_l_heldReceiver : Env := [(69, c_l_heldGotS)]
theorem env_l_heldReceiver_ok : EnvOk Tryd.prog env_l_heldReceiver := envAll_ok ⟨c_l_heldGotS_ok, trivial⟩
def tr_l_heldReceiver : Nat → Tr := fun n => match n with
  | _ => .nil
def c_l_heldReceiver : CS := csN tab env_l_heldReceiver tr_l_heldReceiver Tryd.f35
theorem c_l_heldReceiver_ok : CSok Tryd.prog 35 c_l_heldReceiver := csN_ok tab_ok mixed_ok env_l_heldReceiver_ok Tryd.func35 (by kernel_rfl)

end Go.Proofs.YtkhggobpanfkfaaDoor
