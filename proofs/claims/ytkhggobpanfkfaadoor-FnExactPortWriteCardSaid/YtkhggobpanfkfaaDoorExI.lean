/-
  What the exact laws do with slices of int and with senders: sizes, copies, comparisons, marks.
-/
import Derived.Test.YtkhggobpanfkfaaDoorMark
namespace Go.Proofs.YtkhggobpanfkfaaDoor
open Go.RowKit
open Ab
set_option linter.unusedSimpArgs false
set_option linter.unusedVariables false

def env_l_szIntS : Env := []
theorem env_l_szIntS_ok : EnvOk Tryd.prog env_l_szIntS := envAll_ok trivial
def tr_l_szIntS : Nat → Tr := fun n => match n with
  | _ => .nil
def c_l_szIntS : CS := csN tab env_l_szIntS tr_l_szIntS Tryd.f49
theorem c_l_szIntS_ok : CSok Tryd.prog 49 c_l_szIntS := csN_ok tab_ok mixed_ok env_l_szIntS_ok Tryd.func49 (by kernel_rfl)
def env_l_szSender : Env := [(49, c_l_szIntS)]
theorem env_l_szSender_ok : EnvOk Tryd.prog env_l_szSender := envAll_ok ⟨c_l_szIntS_ok, trivial⟩
def tr_l_szSender : Nat → Tr := fun n => match n with
  | _ => .nil
def c_l_szSender : CS := csN tab env_l_szSender tr_l_szSender Tryd.f16
theorem c_l_szSender_ok : CSok Tryd.prog 16 c_l_szSender := csN_ok tab_ok mixed_ok env_l_szSender_ok Tryd.func16 (by kernel_rfl)

def env_l_toIntS : Env := []
theorem env_l_toIntS_ok : EnvOk Tryd.prog env_l_toIntS := envAll_ok trivial
def tr_l_toIntS : Nat → Tr := fun n => match n with
  | _ => .nil
set_option maxRecDepth 100000 in
set_option maxHeartbeats 2000000 in
theorem con_l_toIntS : Con Tryd.prog 55 [.inl .ints] (fun ⟨l, _⟩ K => K (intsD l)) := by
  refine con_ofN (TR := tr_l_toIntS) tab_ok mixed_ok env_l_toIntS_ok Tryd.func55 rfl ?_
  rintro ⟨(l : List Int), _⟩ K hK ⟨hl, _⟩
  replace hK : K (intsD l) := hK
  replace hl : l.length ≤ 1099511627776 := hl
  repeat' ((conv => whnf); (first | (refine Side.mk ?_ ?_; focus (first | omega | with_reducible assumption | kernel_rfl | exact rfl | (with_reducible first | omega | exact rngI (by omega) | (and_intros <;> first | trivial | omega | exact rngI (by omega))) | (dsimp only [EL.len]; with_reducible first | omega | exact rngI (by omega) | (and_intros <;> first | trivial | omega | exact rngI (by omega))) | with_reducible exact rngB (by omega) | with_reducible exact rngI ⟨by decide, by decide⟩ | exact ⟨rfl, trivial⟩ | exact ⟨rfl, rfl, trivial⟩ | exact ⟨⟨rfl, rfl, rfl, rfl⟩, trivial⟩ | (show (_ : Int) ≤ _ ∧ (_ : Int) ≤ _; omega) | (show (_ : Int) ≤ _; omega) | (simp only [EL.len, EL.sz, EL.take, EL.drop, maxL, la, ln, lc, ld, lt, ls, lna]; with_reducible first | omega | exact rngI (by omega) | (and_intros <;> first | trivial | omega | exact rngI (by omega))) | (simp only [EL.len, EL.sz, EL.take, EL.drop, maxL, la, ln, lc, ld, lt, ls, lna] at *; with_reducible first | omega | exact rngI (by omega) | (and_intros <;> first | trivial | omega | exact rngI (by omega))))) | (refine End.mk ?_; exact hF) | refine End.mk ?_ | refine brT ?_ | refine brF ?_ | (refine brT' ?_ ?_; focus with_reducible assumption) | (refine brF' ?_ ?_; focus with_reducible assumption) | (refine Br.mk ?_ ?_ <;> (intro hb; have h := hb; (try simp only [decide_eq_true_eq, decide_eq_false_iff_not, Bool.not_eq_true', Bool.not_eq_false', Bool.not_eq_eq_eq_not, Bool.not_true, Bool.not_false, ge_iff_le, gt_iff_lt, Bool.and_eq_true, Bool.and_eq_false_iff, Bool.or_eq_true, Bool.or_eq_false_iff, beq_self_eq_true, not_true_eq_false, and_self, Bool.true_eq_false, Bool.false_eq_true, not_false_eq_true] at h); (try dsimp only [EL.len] at h); (try (exfalso; first | omega | exact bnF h (by with_reducible assumption) | exact bnT h (by with_reducible assumption))))) | (refine fun (y : Int) (h0 : 0 ≤ y) h1 => ?_)))
  refine LoopG.inv {s : Nat × List Int // s.1 ≤ l.length ∧ s.2 = l.take s.1 ++ List.replicate (l.length - s.1) 0} (fun ⟨(k, _), _⟩ => [(4, .l (.v (.int .i64 k)))]) (fun ⟨(_, q), _⟩ => [(0, .r 0 3 (.ints q))]) (fun ⟨(k, _), _⟩ => l.length - k) ⟨(0, List.replicate l.length 0), Nat.zero_le _, rfl⟩ [0] ?_ ?_
  · repeat' (first | (refine Side.mk ?_ ?_; focus (first | kernel_rfl | exact rfl | exact ⟨rfl, trivial⟩ | exact fun _ h => h | exact ⟨⟨rfl, rfl, rfl, rfl⟩, trivial⟩ | exact ⟨⟨rfl, rfl⟩, rfl, rfl⟩ | exact ⟨rfl, rfl, trivial⟩)) | exact True.intro)
  rintro ⟨⟨k, q⟩, hk, hq⟩
  have gk : k ≤ l.length := hk
  have gq : q = l.take k ++ List.replicate (l.length - k) 0 := hq
  have gl : q.length = l.length := by rw [gq]; simp; omega
  repeat' ((conv => whnf); (first | (refine Side.mk ?_ ?_; focus (first | omega | with_reducible assumption | kernel_rfl | exact rfl | (with_reducible first | omega | exact rngI (by omega) | (and_intros <;> first | trivial | omega | exact rngI (by omega))) | (dsimp only [EL.len]; with_reducible first | omega | exact rngI (by omega) | (and_intros <;> first | trivial | omega | exact rngI (by omega))) | with_reducible exact rngB (by omega) | with_reducible exact rngI ⟨by decide, by decide⟩ | exact ⟨rfl, trivial⟩ | exact ⟨rfl, rfl, trivial⟩ | exact ⟨⟨rfl, rfl, rfl, rfl⟩, trivial⟩ | (show (_ : Int) ≤ _ ∧ (_ : Int) ≤ _; omega) | (show (_ : Int) ≤ _; omega) | (simp only [EL.len, EL.sz, EL.take, EL.drop, maxL, la, ln, lc, ld, lt, ls, lna]; with_reducible first | omega | exact rngI (by omega) | (and_intros <;> first | trivial | omega | exact rngI (by omega))) | (simp only [EL.len, EL.sz, EL.take, EL.drop, maxL, la, ln, lc, ld, lt, ls, lna] at *; with_reducible first | omega | exact rngI (by omega) | (and_intros <;> first | trivial | omega | exact rngI (by omega))))) | (refine End.mk ?_; exact hF) | refine End.mk ?_ | refine brT ?_ | refine brF ?_ | (refine brT' ?_ ?_; focus with_reducible assumption) | (refine brF' ?_ ?_; focus with_reducible assumption) | (refine Br.mk ?_ ?_ <;> (intro hb; have h := hb; (try simp only [decide_eq_true_eq, decide_eq_false_iff_not, Bool.not_eq_true', Bool.not_eq_false', Bool.not_eq_eq_eq_not, Bool.not_true, Bool.not_false, ge_iff_le, gt_iff_lt, Bool.and_eq_true, Bool.and_eq_false_iff, Bool.or_eq_true, Bool.or_eq_false_iff, beq_self_eq_true, not_true_eq_false, and_self, Bool.true_eq_false, Bool.false_eq_true, not_false_eq_true] at h); (try dsimp only [EL.len] at h); (try (exfalso; first | omega | exact bnF h (by with_reducible assumption) | exact bnT h (by with_reducible assumption))))) | (refine fun (y : Int) (h0 : 0 ≤ y) h1 => ?_)))
  · have hlt : k < l.length := Int.ofNat_lt.1 h
    have e2 : q.set k (l.getD k 0) = l.take (k + 1) ++ List.replicate (l.length - (k + 1)) 0 := take_set_succ l q k hlt gq
    (refine Exists.intro ⟨(k + 1, q.set k (l.getD k 0)), hlt, e2⟩ (Exists.intro [0] (And.intro ?_ ?_)))
    · show l.length - (k + 1) < l.length - k
      omega
    · repeat' (first | (refine Side.mk ?_ ?_; focus (first | kernel_rfl | exact rfl | exact ⟨rfl, trivial⟩ | exact fun _ h => h | exact ⟨⟨rfl, rfl, rfl, rfl⟩, trivial⟩ | exact ⟨⟨rfl, rfl⟩, rfl, rfl⟩ | exact ⟨rfl, rfl, trivial⟩)) | exact True.intro)
  · (refine Exists.intro _ (And.intro ?_ hK); repeat' (first | (refine Side.mk ?_ ?_; focus (first | with_reducible exact rfl | exact Eq.refl true | exact Eq.refl false)) | (refine Side.mk ?_ ?_) | exact True.intro))
    have : k = l.length := by omega
    rw [gq, this]
    simp
def c_l_toIntS : CS := csOf [.inl .ints] (fun ⟨l, _⟩ K => K (intsD l))
theorem c_l_toIntS_ok : CSok Tryd.prog 55 c_l_toIntS := cs_ok (by kernel_rfl) con_l_toIntS

def env_l_toSender : Env := [(55, c_l_toIntS)]
theorem env_l_toSender_ok : EnvOk Tryd.prog env_l_toSender := envAll_ok ⟨c_l_toIntS_ok, trivial⟩
def tr_l_toSender : Nat → Tr := fun n => match n with
  | _ => .nil
set_option maxRecDepth 100000 in
set_option maxHeartbeats 2000000 in
theorem con_l_toSender : Con Tryd.prog 23 [.inr [.int, .ints, .int, .int]] (fun ⟨⟨r, l, s, f, _⟩, _⟩ K => K (.a (Snd.d ⟨r, l, s, f⟩))) := by
  refine con_ofN (TR := tr_l_toSender) tab_ok mixed_ok env_l_toSender_ok Tryd.func23 rfl ?_
  rintro ⟨⟨(r : Int), (l : List Int), (s : Int), (f : Int), _⟩, _⟩ K hK ⟨⟨_, hl, _⟩, _⟩
  replace hK : K (.a (Snd.d ⟨r, l, s, f⟩)) := hK
  replace hl : l.length ≤ 1099511627776 := hl
  repeat' ((conv => whnf); (first | (refine Side.mk ?_ ?_; focus (first | omega | with_reducible assumption | kernel_rfl | exact rfl | (with_reducible first | omega | exact rngI (by omega) | (and_intros <;> first | trivial | omega | exact rngI (by omega))) | (dsimp only [EL.len]; with_reducible first | omega | exact rngI (by omega) | (and_intros <;> first | trivial | omega | exact rngI (by omega))) | with_reducible exact rngB (by omega) | with_reducible exact rngI ⟨by decide, by decide⟩ | exact ⟨rfl, trivial⟩ | exact ⟨rfl, rfl, trivial⟩ | exact ⟨⟨rfl, rfl, rfl, rfl⟩, trivial⟩ | (show (_ : Int) ≤ _ ∧ (_ : Int) ≤ _; omega) | (show (_ : Int) ≤ _; omega) | (simp only [EL.len, EL.sz, EL.take, EL.drop, maxL, la, ln, lc, ld, lt, ls, lna]; with_reducible first | omega | exact rngI (by omega) | (and_intros <;> first | trivial | omega | exact rngI (by omega))) | (simp only [EL.len, EL.sz, EL.take, EL.drop, maxL, la, ln, lc, ld, lt, ls, lna] at *; with_reducible first | omega | exact rngI (by omega) | (and_intros <;> first | trivial | omega | exact rngI (by omega))))) | (refine End.mk ?_; exact hF) | refine End.mk ?_ | refine brT ?_ | refine brF ?_ | (refine brT' ?_ ?_; focus with_reducible assumption) | (refine brF' ?_ ?_; focus with_reducible assumption) | (refine Br.mk ?_ ?_ <;> (intro hb; have h := hb; (try simp only [decide_eq_true_eq, decide_eq_false_iff_not, Bool.not_eq_true', Bool.not_eq_false', Bool.not_eq_eq_eq_not, Bool.not_true, Bool.not_false, ge_iff_le, gt_iff_lt, Bool.and_eq_true, Bool.and_eq_false_iff, Bool.or_eq_true, Bool.or_eq_false_iff, beq_self_eq_true, not_true_eq_false, and_self, Bool.true_eq_false, Bool.false_eq_true, not_false_eq_true] at h); (try dsimp only [EL.len] at h); (try (exfalso; first | omega | exact bnF h (by with_reducible assumption) | exact bnT h (by with_reducible assumption))))) | (refine fun (y : Int) (h0 : 0 ≤ y) h1 => ?_)))
  (refine Exists.intro _ (And.intro ?_ hK); repeat' (first | (refine Side.mk ?_ ?_; focus (first | with_reducible exact rfl | exact Eq.refl true | exact Eq.refl false)) | (refine Side.mk ?_ ?_) | exact True.intro))
  all_goals rfl
def c_l_toSender : CS := csOf [.inr [.int, .ints, .int, .int]] (fun ⟨⟨r, l, s, f, _⟩, _⟩ K => K (.a (Snd.d ⟨r, l, s, f⟩)))
theorem c_l_toSender_ok : CSok Tryd.prog 23 c_l_toSender := cs_ok (by kernel_rfl) con_l_toSender

def env_l_eqIntS : Env := []
theorem env_l_eqIntS_ok : EnvOk Tryd.prog env_l_eqIntS := envAll_ok trivial
def tr_l_eqIntS : Nat → Tr := fun n => match n with
  | 6 => .op 0 0 (.op 1 0 (.op 2 0 (.op 3 0 (.op 4 0 (.op 5 1 (.op 6 1 (.op 7 1 (.op 8 1 (.nil)))))))))
  | _ => .nil
set_option maxRecDepth 100000 in
set_option maxHeartbeats 2000000 in
theorem con_l_eqIntS : Con Tryd.prog 66 [.inl .ints, .inl .ints] (fun ⟨a, b, _⟩ K => K (.l (.v (.bool (decide (a = b)))))) := by
  refine con_ofN (TR := tr_l_eqIntS) tab_ok mixed_ok env_l_eqIntS_ok Tryd.func66 rfl ?_
  rintro ⟨(a : List Int), (b : List Int), _⟩ K hK ⟨hla, hlb, _⟩
  replace hK : K (.l (.v (.bool (decide (a = b))))) := hK
  replace hla : a.length ≤ 1099511627776 := hla
  replace hlb : b.length ≤ 1099511627776 := hlb
  repeat' ((conv => whnf); (first | (refine Side.mk ?_ ?_; focus (first | omega | with_reducible assumption | kernel_rfl | exact rfl | (with_reducible first | omega | exact rngI (by omega) | (and_intros <;> first | trivial | omega | exact rngI (by omega))) | (dsimp only [EL.len]; with_reducible first | omega | exact rngI (by omega) | (and_intros <;> first | trivial | omega | exact rngI (by omega))) | with_reducible exact rngB (by omega) | with_reducible exact rngI ⟨by decide, by decide⟩ | exact ⟨rfl, trivial⟩ | exact ⟨rfl, rfl, trivial⟩ | exact ⟨⟨rfl, rfl, rfl, rfl⟩, trivial⟩ | (show (_ : Int) ≤ _ ∧ (_ : Int) ≤ _; omega) | (show (_ : Int) ≤ _; omega) | (simp only [EL.len, EL.sz, EL.take, EL.drop, maxL, la, ln, lc, ld, lt, ls, lna]; with_reducible first | omega | exact rngI (by omega) | (and_intros <;> first | trivial | omega | exact rngI (by omega))) | (simp only [EL.len, EL.sz, EL.take, EL.drop, maxL, la, ln, lc, ld, lt, ls, lna] at *; with_reducible first | omega | exact rngI (by omega) | (and_intros <;> first | trivial | omega | exact rngI (by omega))))) | (refine End.mk ?_; exact hF) | refine End.mk ?_ | refine brT ?_ | refine brF ?_ | (refine brT' ?_ ?_; focus with_reducible assumption) | (refine brF' ?_ ?_; focus with_reducible assumption) | (refine Br.mk ?_ ?_ <;> (intro hb; have h := hb; (try simp only [decide_eq_true_eq, decide_eq_false_iff_not, Bool.not_eq_true', Bool.not_eq_false', Bool.not_eq_eq_eq_not, Bool.not_true, Bool.not_false, ge_iff_le, gt_iff_lt, Bool.and_eq_true, Bool.and_eq_false_iff, Bool.or_eq_true, Bool.or_eq_false_iff, beq_self_eq_true, not_true_eq_false, and_self, Bool.true_eq_false, Bool.false_eq_true, not_false_eq_true] at h); (try dsimp only [EL.len] at h); (try (exfalso; first | omega | exact bnF h (by with_reducible assumption) | exact bnT h (by with_reducible assumption))))) | (refine fun (y : Int) (h0 : 0 ≤ y) h1 => ?_)))
  · (refine Exists.intro _ (And.intro ?_ hK); repeat' (first | (refine Side.mk ?_ ?_; focus (first | with_reducible exact rfl | exact Eq.refl true | exact Eq.refl false)) | (refine Side.mk ?_ ?_) | exact True.intro))
    exact (decide_eq_false (fun e => h (by rw [e]))).symm
  · repeat' ((conv => whnf); (first | (refine Side.mk ?_ ?_; focus (first | omega | with_reducible assumption | kernel_rfl | exact rfl | (with_reducible first | omega | exact rngI (by omega) | (and_intros <;> first | trivial | omega | exact rngI (by omega))) | (dsimp only [EL.len]; with_reducible first | omega | exact rngI (by omega) | (and_intros <;> first | trivial | omega | exact rngI (by omega))) | with_reducible exact rngB (by omega) | with_reducible exact rngI ⟨by decide, by decide⟩ | exact ⟨rfl, trivial⟩ | exact ⟨rfl, rfl, trivial⟩ | exact ⟨⟨rfl, rfl, rfl, rfl⟩, trivial⟩ | (show (_ : Int) ≤ _ ∧ (_ : Int) ≤ _; omega) | (show (_ : Int) ≤ _; omega) | (simp only [EL.len, EL.sz, EL.take, EL.drop, maxL, la, ln, lc, ld, lt, ls, lna]; with_reducible first | omega | exact rngI (by omega) | (and_intros <;> first | trivial | omega | exact rngI (by omega))) | (simp only [EL.len, EL.sz, EL.take, EL.drop, maxL, la, ln, lc, ld, lt, ls, lna] at *; with_reducible first | omega | exact rngI (by omega) | (and_intros <;> first | trivial | omega | exact rngI (by omega))))) | (refine End.mk ?_; exact hF) | refine End.mk ?_ | refine brT ?_ | refine brF ?_ | (refine brT' ?_ ?_; focus with_reducible assumption) | (refine brF' ?_ ?_; focus with_reducible assumption) | (refine Br.mk ?_ ?_ <;> (intro hb; have h := hb; (try simp only [decide_eq_true_eq, decide_eq_false_iff_not, Bool.not_eq_true', Bool.not_eq_false', Bool.not_eq_eq_eq_not, Bool.not_true, Bool.not_false, ge_iff_le, gt_iff_lt, Bool.and_eq_true, Bool.and_eq_false_iff, Bool.or_eq_true, Bool.or_eq_false_iff, beq_self_eq_true, not_true_eq_false, and_self, Bool.true_eq_false, Bool.false_eq_true, not_false_eq_true] at h); (try dsimp only [EL.len] at h); (try (exfalso; first | omega | exact bnF h (by with_reducible assumption) | exact bnT h (by with_reducible assumption))))) | (refine fun (y : Int) (h0 : 0 ≤ y) h1 => ?_)))
    refine LoopG.inv {k : Nat // k ≤ a.length ∧ a.take k = b.take k} (fun ⟨k, _⟩ => [(5, .l (.v (.int .i64 k)))]) (fun _ => []) (fun ⟨k, _⟩ => a.length - k) ⟨0, Nat.zero_le _, rfl⟩ [] ?_ ?_
    · repeat' (first | (refine Side.mk ?_ ?_; focus (first | kernel_rfl | exact rfl | exact ⟨rfl, trivial⟩ | exact fun _ h => h | exact ⟨⟨rfl, rfl, rfl, rfl⟩, trivial⟩ | exact ⟨⟨rfl, rfl⟩, rfl, rfl⟩ | exact ⟨rfl, rfl, trivial⟩)) | exact True.intro)
    rintro ⟨k, hk, hk2⟩
    repeat' ((conv => whnf); (first | (refine Side.mk ?_ ?_; focus (first | omega | with_reducible assumption | kernel_rfl | exact rfl | (with_reducible first | omega | exact rngI (by omega) | (and_intros <;> first | trivial | omega | exact rngI (by omega))) | (dsimp only [EL.len]; with_reducible first | omega | exact rngI (by omega) | (and_intros <;> first | trivial | omega | exact rngI (by omega))) | with_reducible exact rngB (by omega) | with_reducible exact rngI ⟨by decide, by decide⟩ | exact ⟨rfl, trivial⟩ | exact ⟨rfl, rfl, trivial⟩ | exact ⟨⟨rfl, rfl, rfl, rfl⟩, trivial⟩ | (show (_ : Int) ≤ _ ∧ (_ : Int) ≤ _; omega) | (show (_ : Int) ≤ _; omega) | (simp only [EL.len, EL.sz, EL.take, EL.drop, maxL, la, ln, lc, ld, lt, ls, lna]; with_reducible first | omega | exact rngI (by omega) | (and_intros <;> first | trivial | omega | exact rngI (by omega))) | (simp only [EL.len, EL.sz, EL.take, EL.drop, maxL, la, ln, lc, ld, lt, ls, lna] at *; with_reducible first | omega | exact rngI (by omega) | (and_intros <;> first | trivial | omega | exact rngI (by omega))))) | (refine End.mk ?_; exact hF) | refine End.mk ?_ | refine brT ?_ | refine brF ?_ | (refine brT' ?_ ?_; focus with_reducible assumption) | (refine brF' ?_ ?_; focus with_reducible assumption) | (refine Br.mk ?_ ?_ <;> (intro hb; have h := hb; (try simp only [decide_eq_true_eq, decide_eq_false_iff_not, Bool.not_eq_true', Bool.not_eq_false', Bool.not_eq_eq_eq_not, Bool.not_true, Bool.not_false, ge_iff_le, gt_iff_lt, Bool.and_eq_true, Bool.and_eq_false_iff, Bool.or_eq_true, Bool.or_eq_false_iff, beq_self_eq_true, not_true_eq_false, and_self, Bool.true_eq_false, Bool.false_eq_true, not_false_eq_true] at h); (try dsimp only [EL.len] at h); (try (exfalso; first | omega | exact bnF h (by with_reducible assumption) | exact bnT h (by with_reducible assumption))))) | (refine fun (y : Int) (h0 : 0 ≤ y) h1 => ?_)))
    · (refine Exists.intro _ (And.intro ?_ hK); repeat' (first | (refine Side.mk ?_ ?_; focus (first | with_reducible exact rfl | exact Eq.refl true | exact Eq.refl false)) | (refine Side.mk ?_ ?_) | exact True.intro))
      exact (decide_eq_false (fun e => h (by rw [e]))).symm
    · have h2 : a.take (k + 1) = b.take (k + 1) := by
        rw [Int.toNat_natCast] at h
        exact take_eq_succ (by omega) (by omega) hk2 h
      (refine Exists.intro ⟨k + 1, by omega, h2⟩ (Exists.intro [] (And.intro ?_ ?_)))
      · show a.length - (k + 1) < a.length - k
        omega
      · repeat' (first | (refine Side.mk ?_ ?_; focus (first | kernel_rfl | exact rfl | exact ⟨rfl, trivial⟩ | exact fun _ h => h | exact ⟨⟨rfl, rfl, rfl, rfl⟩, trivial⟩ | exact ⟨⟨rfl, rfl⟩, rfl, rfl⟩ | exact ⟨rfl, rfl, trivial⟩)) | exact True.intro)
    · (refine Exists.intro _ (And.intro ?_ hK); repeat' (first | (refine Side.mk ?_ ?_; focus (first | with_reducible exact rfl | exact Eq.refl true | exact Eq.refl false)) | (refine Side.mk ?_ ?_) | exact True.intro))
      rw [List.take_of_length_le (by omega), List.take_of_length_le (by omega)] at hk2
      exact (decide_eq_true hk2).symm
def c_l_eqIntS : CS := csOf [.inl .ints, .inl .ints] (fun ⟨a, b, _⟩ K => K (.l (.v (.bool (decide (a = b))))))
theorem c_l_eqIntS_ok : CSok Tryd.prog 66 c_l_eqIntS := cs_ok (by kernel_rfl) con_l_eqIntS

def env_l_eqSender : Env := [(66, c_l_eqIntS)]
theorem env_l_eqSender_ok : EnvOk Tryd.prog env_l_eqSender := envAll_ok ⟨c_l_eqIntS_ok, trivial⟩
def tr_l_eqSender : Nat → Tr := fun n => match n with
  | _ => .nil
set_option maxRecDepth 100000 in
set_option maxHeartbeats 2000000 in
theorem con_l_eqSender : Con Tryd.prog 31 [.inr [.int, .ints, .int, .int], .inr [.int, .ints, .int, .int]] (fun ⟨⟨r, l, s, f, _⟩, ⟨r2, l2, s2, f2, _⟩, _⟩ K => K (.l (.v (.bool (decide (r = r2 ∧ s = s2 ∧ f = f2 ∧ l = l2)))))) := by
  refine con_ofN (TR := tr_l_eqSender) tab_ok mixed_ok env_l_eqSender_ok Tryd.func31 rfl ?_
  rintro ⟨⟨(r : Int), (l : List Int), (s : Int), (f : Int), _⟩, ⟨(r2 : Int), (l2 : List Int), (s2 : Int), (f2 : Int), _⟩, _⟩ K hK _
  replace hK : K (.l (.v (.bool (decide (r = r2 ∧ s = s2 ∧ f = f2 ∧ l = l2))))) := hK
  repeat' ((conv => whnf); (first | (refine Side.mk ?_ ?_; focus (first | omega | with_reducible assumption | kernel_rfl | exact rfl | (with_reducible first | omega | exact rngI (by omega) | (and_intros <;> first | trivial | omega | exact rngI (by omega))) | (dsimp only [EL.len]; with_reducible first | omega | exact rngI (by omega) | (and_intros <;> first | trivial | omega | exact rngI (by omega))) | with_reducible exact rngB (by omega) | with_reducible exact rngI ⟨by decide, by decide⟩ | exact ⟨rfl, trivial⟩ | exact ⟨rfl, rfl, trivial⟩ | exact ⟨⟨rfl, rfl, rfl, rfl⟩, trivial⟩ | (show (_ : Int) ≤ _ ∧ (_ : Int) ≤ _; omega) | (show (_ : Int) ≤ _; omega) | (simp only [EL.len, EL.sz, EL.take, EL.drop, maxL, la, ln, lc, ld, lt, ls, lna]; with_reducible first | omega | exact rngI (by omega) | (and_intros <;> first | trivial | omega | exact rngI (by omega))) | (simp only [EL.len, EL.sz, EL.take, EL.drop, maxL, la, ln, lc, ld, lt, ls, lna] at *; with_reducible first | omega | exact rngI (by omega) | (and_intros <;> first | trivial | omega | exact rngI (by omega))))) | (refine End.mk ?_; exact hF) | refine End.mk ?_ | refine brT ?_ | refine brF ?_ | (refine brT' ?_ ?_; focus with_reducible assumption) | (refine brF' ?_ ?_; focus with_reducible assumption) | (refine Br.mk ?_ ?_ <;> (intro hb; have h := hb; (try simp only [decide_eq_true_eq, decide_eq_false_iff_not, Bool.not_eq_true', Bool.not_eq_false', Bool.not_eq_eq_eq_not, Bool.not_true, Bool.not_false, ge_iff_le, gt_iff_lt, Bool.and_eq_true, Bool.and_eq_false_iff, Bool.or_eq_true, Bool.or_eq_false_iff, beq_self_eq_true, not_true_eq_false, and_self, Bool.true_eq_false, Bool.false_eq_true, not_false_eq_true] at h); (try dsimp only [EL.len] at h); (try (exfalso; first | omega | exact bnF h (by with_reducible assumption) | exact bnT h (by with_reducible assumption))))) | (refine fun (y : Int) (h0 : 0 ≤ y) h1 => ?_)))
  all_goals
    (refine Exists.intro _ (And.intro ?_ hK); repeat' (first | (refine Side.mk ?_ ?_; focus (first | with_reducible exact rfl | exact Eq.refl true | exact Eq.refl false)) | (refine Side.mk ?_ ?_) | exact True.intro))
    simp_all
def c_l_eqSender : CS := csOf [.inr [.int, .ints, .int, .int], .inr [.int, .ints, .int, .int]] (fun ⟨⟨r, l, s, f, _⟩, ⟨r2, l2, s2, f2, _⟩, _⟩ K => K (.l (.v (.bool (decide (r = r2 ∧ s = s2 ∧ f = f2 ∧ l = l2))))))
theorem c_l_eqSender_ok : CSok Tryd.prog 31 c_l_eqSender := cs_ok (by kernel_rfl) con_l_eqSender

theorem markL_take (q : Int) : ∀ (n k : Nat), k ≤ n → (markL q n).take k = markL q k
  | _, 0, _ => by simp [markL]
  | 0, k + 1, h => by omega
  | n + 1, k + 1, h => by simp [markL, markL_take (q + 1) n k (by omega)]

def env_l_heldIntS : Env := []
theorem env_l_heldIntS_ok : EnvOk Tryd.prog env_l_heldIntS := envAll_ok trivial
def tr_l_heldIntS : Nat → Tr := fun n => match n with
  | _ => .nil
set_option maxRecDepth 100000 in
set_option maxHeartbeats 2000000 in
theorem con_l_heldIntS : Con Tryd.prog 70 [.inl .ints, .inl .int] (fun ⟨l, q, _⟩ K => Side (0 ≤ q ∧ q ≤ 1099511627776) <| Side (l = markL q l.length) <| K (.l (.v (.int .i64 (q + l.length))))) := by
  refine con_ofN (TR := tr_l_heldIntS) tab_ok mixed_ok env_l_heldIntS_ok Tryd.func70 rfl ?_
  rintro ⟨(l : List Int), (q : Int), _⟩ K ⟨hq, ⟨hm, hK⟩⟩ ⟨hl, _⟩
  replace hK : K (.l (.v (.int .i64 (q + l.length)))) := hK
  replace hl : l.length ≤ 1099511627776 := hl
  replace hq : 0 ≤ q ∧ q ≤ 1099511627776 := hq
  replace hm : l = markL q l.length := hm
  repeat' ((conv => whnf); (first | (refine Side.mk ?_ ?_; focus (first | omega | with_reducible assumption | kernel_rfl | exact rfl | (with_reducible first | omega | exact rngI (by omega) | (and_intros <;> first | trivial | omega | exact rngI (by omega))) | (dsimp only [EL.len]; with_reducible first | omega | exact rngI (by omega) | (and_intros <;> first | trivial | omega | exact rngI (by omega))) | with_reducible exact rngB (by omega) | with_reducible exact rngI ⟨by decide, by decide⟩ | exact ⟨rfl, trivial⟩ | exact ⟨rfl, rfl, trivial⟩ | exact ⟨⟨rfl, rfl, rfl, rfl⟩, trivial⟩ | (show (_ : Int) ≤ _ ∧ (_ : Int) ≤ _; omega) | (show (_ : Int) ≤ _; omega) | (simp only [EL.len, EL.sz, EL.take, EL.drop, maxL, la, ln, lc, ld, lt, ls, lna]; with_reducible first | omega | exact rngI (by omega) | (and_intros <;> first | trivial | omega | exact rngI (by omega))) | (simp only [EL.len, EL.sz, EL.take, EL.drop, maxL, la, ln, lc, ld, lt, ls, lna] at *; with_reducible first | omega | exact rngI (by omega) | (and_intros <;> first | trivial | omega | exact rngI (by omega))))) | (refine End.mk ?_; exact hF) | refine End.mk ?_ | refine brT ?_ | refine brF ?_ | (refine brT' ?_ ?_; focus with_reducible assumption) | (refine brF' ?_ ?_; focus with_reducible assumption) | (refine Br.mk ?_ ?_ <;> (intro hb; have h := hb; (try simp only [decide_eq_true_eq, decide_eq_false_iff_not, Bool.not_eq_true', Bool.not_eq_false', Bool.not_eq_eq_eq_not, Bool.not_true, Bool.not_false, ge_iff_le, gt_iff_lt, Bool.and_eq_true, Bool.and_eq_false_iff, Bool.or_eq_true, Bool.or_eq_false_iff, beq_self_eq_true, not_true_eq_false, and_self, Bool.true_eq_false, Bool.false_eq_true, not_false_eq_true] at h); (try dsimp only [EL.len] at h); (try (exfalso; first | omega | exact bnF h (by with_reducible assumption) | exact bnT h (by with_reducible assumption))))) | (refine fun (y : Int) (h0 : 0 ≤ y) h1 => ?_)))
  refine LoopG.inv {s : Nat × Int // s.1 ≤ l.length ∧ s.2 = q + s.1} (fun ⟨(k, z), _⟩ => [(5, .l (.v (.int .i64 k))), (1, .l (.v (.int .i64 z)))]) (fun _ => []) (fun ⟨(k, _), _⟩ => l.length - k) ⟨(0, q), Nat.zero_le _, (show q = q + ((0 : Nat) : Int) by omega)⟩ [] ?_ ?_
  · repeat' (first | (refine Side.mk ?_ ?_; focus (first | kernel_rfl | exact rfl | exact ⟨rfl, trivial⟩ | exact fun _ h => h | exact ⟨⟨rfl, rfl, rfl, rfl⟩, trivial⟩ | exact ⟨⟨rfl, rfl⟩, rfl, rfl⟩ | exact ⟨rfl, rfl, trivial⟩)) | exact True.intro)
  rintro ⟨⟨k, z⟩, hk, hz⟩
  have gk : k ≤ l.length := hk
  have gz : z = q + k := hz
  have gm : k < l.length → l.getD k 0 = q + k := fun h => by rw [hm]; exact markL_getD q l.length k h
  repeat' ((conv => whnf); (first | (refine Side.mk ?_ ?_; focus (first | omega | with_reducible assumption | kernel_rfl | exact rfl | (with_reducible first | omega | exact rngI (by omega) | (and_intros <;> first | trivial | omega | exact rngI (by omega))) | (dsimp only [EL.len]; with_reducible first | omega | exact rngI (by omega) | (and_intros <;> first | trivial | omega | exact rngI (by omega))) | with_reducible exact rngB (by omega) | with_reducible exact rngI ⟨by decide, by decide⟩ | exact ⟨rfl, trivial⟩ | exact ⟨rfl, rfl, trivial⟩ | exact ⟨⟨rfl, rfl, rfl, rfl⟩, trivial⟩ | (show (_ : Int) ≤ _ ∧ (_ : Int) ≤ _; omega) | (show (_ : Int) ≤ _; omega) | (simp only [EL.len, EL.sz, EL.take, EL.drop, maxL, la, ln, lc, ld, lt, ls, lna]; with_reducible first | omega | exact rngI (by omega) | (and_intros <;> first | trivial | omega | exact rngI (by omega))) | (simp only [EL.len, EL.sz, EL.take, EL.drop, maxL, la, ln, lc, ld, lt, ls, lna] at *; with_reducible first | omega | exact rngI (by omega) | (and_intros <;> first | trivial | omega | exact rngI (by omega))))) | (refine End.mk ?_; exact hF) | refine End.mk ?_ | refine brT ?_ | refine brF ?_ | (refine brT' ?_ ?_; focus with_reducible assumption) | (refine brF' ?_ ?_; focus with_reducible assumption) | (refine Br.mk ?_ ?_ <;> (intro hb; have h := hb; (try simp only [decide_eq_true_eq, decide_eq_false_iff_not, Bool.not_eq_true', Bool.not_eq_false', Bool.not_eq_eq_eq_not, Bool.not_true, Bool.not_false, ge_iff_le, gt_iff_lt, Bool.and_eq_true, Bool.and_eq_false_iff, Bool.or_eq_true, Bool.or_eq_false_iff, beq_self_eq_true, not_true_eq_false, and_self, Bool.true_eq_false, Bool.false_eq_true, not_false_eq_true] at h); (try dsimp only [EL.len] at h); (try (exfalso; first | omega | exact bnF h (by with_reducible assumption) | exact bnT h (by with_reducible assumption))))) | (refine fun (y : Int) (h0 : 0 ≤ y) h1 => ?_)))
  · exfalso
    have hlt : k < l.length := by omega
    have := gm hlt
    rw [Int.toNat_natCast] at h
    omega
  · have hlt : k < l.length := by omega
    (refine Exists.intro ⟨(k + 1, z + 1), hlt, (show z + 1 = q + ((k + 1 : Nat) : Int) by omega)⟩ (Exists.intro [] (And.intro ?_ ?_)))
    · show l.length - (k + 1) < l.length - k
      omega
    · repeat' (first | (refine Side.mk ?_ ?_; focus (first | kernel_rfl | exact rfl | exact ⟨rfl, trivial⟩ | exact fun _ h => h | exact ⟨⟨rfl, rfl, rfl, rfl⟩, trivial⟩ | exact ⟨⟨rfl, rfl⟩, rfl, rfl⟩ | exact ⟨rfl, rfl, trivial⟩)) | exact True.intro)
  · (refine Exists.intro _ (And.intro ?_ hK); repeat' (first | (refine Side.mk ?_ ?_; focus (first | with_reducible exact rfl | exact Eq.refl true | exact Eq.refl false)) | (refine Side.mk ?_ ?_) | exact True.intro))
    omega
def c_l_heldIntS : CS := csOf [.inl .ints, .inl .int] (fun ⟨l, q, _⟩ K => Side (0 ≤ q ∧ q ≤ 1099511627776) <| Side (l = markL q l.length) <| K (.l (.v (.int .i64 (q + l.length)))))
theorem c_l_heldIntS_ok : CSok Tryd.prog 70 c_l_heldIntS := cs_ok (by kernel_rfl) con_l_heldIntS

def env_l_markSender : Env := [(68, c_l_markIntS)]
theorem env_l_markSender_ok : EnvOk Tryd.prog env_l_markSender := envAll_ok ⟨c_l_markIntS_ok, trivial⟩
def tr_l_markSender : Nat → Tr := fun n => match n with
  | _ => .nil
def c_l_markSender : CS := csN tab env_l_markSender tr_l_markSender Tryd.f34
theorem c_l_markSender_ok : CSok Tryd.prog 34 c_l_markSender := csN_ok tab_ok mixed_ok env_l_markSender_ok Tryd.func34 (by kernel_rfl)
def env_l_heldSender : Env := [(70, c_l_heldIntS)]
theorem env_l_heldSender_ok : EnvOk Tryd.prog env_l_heldSender := envAll_ok ⟨c_l_heldIntS_ok, trivial⟩
def tr_l_heldSender : Nat → Tr := fun n => match n with
  | _ => .nil
def c_l_heldSender : CS := csN tab env_l_heldSender tr_l_heldSender Tryd.f36
theorem c_l_heldSender_ok : CSok Tryd.prog 36 c_l_heldSender := csN_ok tab_ok mixed_ok env_l_heldSender_ok Tryd.func36 (by kernel_rfl)

end Go.Proofs.YtkhggobpanfkfaaDoor
