/-
  Receivers that are drawn; equal receivers.
-/
import Derived.Test.YtednhgiabpgleaaR1
namespace Go.Proofs.Ytednhgiabpgleaa
open Go.RowKit
open Ab
set_option linter.unusedSimpArgs false
set_option linter.unusedVariables false

def env_s_l91Got : Env := [(87, c_s_l6Rd_pick)]
theorem env_s_l91Got_ok : EnvOk Try.prog env_s_l91Got := envAll_ok ⟨c_s_l6Rd_pick_ok, trivial⟩
def tr_s_l91Got : Nat → Tr := fun n => match n with
  | _ => .nil
set_option maxRecDepth 100000 in
set_option maxHeartbeats 2000000 in
theorem con_s_l91Got : ConB Try.prog 90 107 [] (fun p _ K => Side (0 ≤ p ∧ p ≤ 1000000) <| ∀ (b c p' : Int), p ≤ p' → p' ≤ p + 4 → K (.a (gotD (b, c))) p') := by
  refine conB_ofN (TR := tr_s_l91Got) tab_ok mixed_ok env_s_l91Got_ok Try.func90 rfl rfl ?_
  rintro v0 l (p : Int) _ K hl ⟨hp, hK⟩
  replace hl : l.length ≤ 1099511627776 := hl
  repeat' ((conv => whnf); first
   | (refine Side.mk ?_ ?_; focus (first | omega | kernel_rfl | with_reducible assumption | with_reducible exact rngI (by omega) | with_reducible exact rngB (by omega) | (dsimp only [EL.len]; first | omega | with_reducible exact rngI (by omega) | with_reducible exact rngB (by omega)) | exact rfl | (simp only [EL.len, EL.sz, EL.take, EL.drop, maxL, List.length_append, List.length_nil, List.length_cons, List.length_drop, List.length_take, List.nil_append]; omega) | (simp only [EL.len, EL.sz, EL.take, EL.drop, maxL, List.length_append, List.length_nil, List.length_cons, List.length_drop, List.length_take, List.nil_append] at *; omega) | (refine ⟨?_, ?_⟩ <;> omega) | exact ⟨rfl, trivial⟩ | exact ⟨rfl, rfl, trivial⟩ | exact ⟨⟨rfl, rfl, rfl, rfl⟩, trivial⟩ | (refine ⟨?_, ?_, ?_⟩ <;> first | omega | with_reducible exact rngI (by omega) | with_reducible exact rngB (by omega))))
   | (refine Fork.mk ?_ ?_; (intro K' hF; (conv at hF => whnf); (repeat ((first | (have hs := side_l hF; replace hF := side_r hF) | (replace hF := fork_r hF)); (conv at hF => whnf))); replace hF := end_r hF))
   | (refine End.mk ?_; exact hF)
   | refine End.mk ?_
   | refine brT ?_
   | refine brF ?_
   | (refine brT' ?_ ?_; focus with_reducible assumption)
   | (refine brF' ?_ ?_; focus with_reducible assumption)
   | (refine Br.mk ?_ ?_ <;> (intro hb; have h := hb; (try simp only [decide_eq_true_eq, decide_eq_false_iff_not, Bool.not_eq_true', Bool.not_eq_false', Bool.not_eq_eq_eq_not, Bool.not_true, Bool.not_false, ge_iff_le, gt_iff_lt, Bool.and_eq_true, Bool.and_eq_false_iff, Bool.or_eq_true, Bool.or_eq_false_iff, beq_self_eq_true, not_true_eq_false, and_self, Bool.true_eq_false, Bool.false_eq_true, not_false_eq_true] at h); (try dsimp only [EL.len] at h); (try (exfalso; first | omega | exact Bool.noConfusion (h.symm.trans (by with_reducible assumption : _ = true)) | exact Bool.noConfusion (h.symm.trans (by with_reducible assumption : _ = false))))))
   | (refine fun (y : Int) (h0 : 0 ≤ y) h1 => ?_))
  all_goals
    refine Exists.intro _ (Exists.intro _ (And.intro ?_ (hK ?_ ?_ ?_ ?_ ?_)))
    · repeat' (first | (refine Side.mk ?_ ?_; focus (first | with_reducible exact rfl | exact Eq.refl true | exact Eq.refl false)) | (refine Side.mk ?_ ?_) | exact True.intro)
    all_goals omega
def c_s_l91Got : CS := csB 107 [] (fun p _ K => Side (0 ≤ p ∧ p ≤ 1000000) <| ∀ (b c p' : Int), p ≤ p' → p' ≤ p + 4 → K (.a (gotD (b, c))) p')
theorem c_s_l91Got_ok : CSok Try.prog 90 c_s_l91Got := csB_ok (by kernel_rfl) con_s_l91Got

def env_s_l91Recv : Env := [(87, c_s_l6Rd_pick), (90, c_s_l91Got)]
theorem env_s_l91Recv_ok : EnvOk Try.prog env_s_l91Recv := envAll_ok ⟨c_s_l6Rd_pick_ok, c_s_l91Got_ok, trivial⟩
def tr_s_l91Recv : Nat → Tr := fun n => match n with
  | 7 => .op 0 0 (.op 1 0 (.op 2 1 (.op 3 1 (.op 4 1 (.op 5 1 (.op 6 1 (.op 7 2 (.nil))))))))
  | 10 => .op 0 0 (.op 1 0 (.op 2 0 (.op 4 0 (.fork 3 1 (.op 5 1 (.op 6 1 (.op 7 1 (.op 8 1 (.op 9 2 (.nil)))))) 5 1 (.op 3 1 (.op 6 1 (.op 7 1 (.op 8 1 (.op 9 2 (.nil))))))))))
  | _ => .nil
set_option maxRecDepth 100000 in
set_option maxHeartbeats 2000000 in
theorem con_s_l91Recv : ConB Try.prog 69 107 [] (fun p _ K => Side (0 ≤ p ∧ p ≤ 900000) <| ∀ (r t : Int) (l : List (Int × Int)) (o : Bool) (a p' : Int), l.length ≤ 100 → p ≤ p' → p' ≤ p + 100 → K (.a (Rcv.d ⟨r, t, l, o, a⟩)) p') := by
  refine conB_ofN (TR := tr_s_l91Recv) tab_ok mixed_ok env_s_l91Recv_ok Try.func69 rfl rfl ?_
  rintro v0 l (p : Int) _ K hl ⟨hp, hK⟩
  replace hl : l.length ≤ 1099511627776 := hl
  repeat' ((conv => whnf); first
   | (refine Side.mk ?_ ?_; focus (first | omega | kernel_rfl | with_reducible assumption | with_reducible exact rngI (by omega) | with_reducible exact rngB (by omega) | (dsimp only [EL.len]; first | omega | with_reducible exact rngI (by omega) | with_reducible exact rngB (by omega)) | exact rfl | (simp only [EL.len, EL.sz, EL.take, EL.drop, maxL, List.length_append, List.length_nil, List.length_cons, List.length_drop, List.length_take, List.nil_append]; omega) | (simp only [EL.len, EL.sz, EL.take, EL.drop, maxL, List.length_append, List.length_nil, List.length_cons, List.length_drop, List.length_take, List.nil_append] at *; omega) | (refine ⟨?_, ?_⟩ <;> omega) | exact ⟨rfl, trivial⟩ | exact ⟨rfl, rfl, trivial⟩ | exact ⟨⟨rfl, rfl, rfl, rfl⟩, trivial⟩ | (refine ⟨?_, ?_, ?_⟩ <;> first | omega | with_reducible exact rngI (by omega) | with_reducible exact rngB (by omega))))
   | (refine Fork.mk ?_ ?_; (intro K' hF; (conv at hF => whnf); (repeat ((first | (have hs := side_l hF; replace hF := side_r hF) | (replace hF := fork_r hF)); (conv at hF => whnf))); replace hF := end_r hF))
   | (refine End.mk ?_; exact hF)
   | refine End.mk ?_
   | refine brT ?_
   | refine brF ?_
   | (refine brT' ?_ ?_; focus with_reducible assumption)
   | (refine brF' ?_ ?_; focus with_reducible assumption)
   | (refine Br.mk ?_ ?_ <;> (intro hb; have h := hb; (try simp only [decide_eq_true_eq, decide_eq_false_iff_not, Bool.not_eq_true', Bool.not_eq_false', Bool.not_eq_eq_eq_not, Bool.not_true, Bool.not_false, ge_iff_le, gt_iff_lt, Bool.and_eq_true, Bool.and_eq_false_iff, Bool.or_eq_true, Bool.or_eq_false_iff, beq_self_eq_true, not_true_eq_false, and_self, Bool.true_eq_false, Bool.false_eq_true, not_false_eq_true] at h); (try dsimp only [EL.len] at h); (try (exfalso; first | omega | exact Bool.noConfusion (h.symm.trans (by with_reducible assumption : _ = true)) | exact Bool.noConfusion (h.symm.trans (by with_reducible assumption : _ = false))))))
   | (refine fun (y : Int) (h0 : 0 ≤ y) h1 => ?_))
  rename_i ya a0 a1 yb b0 b1 yc c0 c1 yd d0 d1
  have h2 : y ≤ 6 := by omega
  repeat' ((conv => whnf); first
   | (refine Side.mk ?_ ?_; focus (first | omega | kernel_rfl | with_reducible assumption | with_reducible exact rngI (by omega) | with_reducible exact rngB (by omega) | (dsimp only [EL.len]; first | omega | with_reducible exact rngI (by omega) | with_reducible exact rngB (by omega)) | exact rfl | (simp only [EL.len, EL.sz, EL.take, EL.drop, maxL, List.length_append, List.length_nil, List.length_cons, List.length_drop, List.length_take, List.nil_append]; omega) | (simp only [EL.len, EL.sz, EL.take, EL.drop, maxL, List.length_append, List.length_nil, List.length_cons, List.length_drop, List.length_take, List.nil_append] at *; omega) | (refine ⟨?_, ?_⟩ <;> omega) | exact ⟨rfl, trivial⟩ | exact ⟨rfl, rfl, trivial⟩ | exact ⟨⟨rfl, rfl, rfl, rfl⟩, trivial⟩ | (refine ⟨?_, ?_, ?_⟩ <;> first | omega | with_reducible exact rngI (by omega) | with_reducible exact rngB (by omega))))
   | (refine Fork.mk ?_ ?_; (intro K' hF; (conv at hF => whnf); (repeat ((first | (have hs := side_l hF; replace hF := side_r hF) | (replace hF := fork_r hF)); (conv at hF => whnf))); replace hF := end_r hF))
   | (refine End.mk ?_; exact hF)
   | refine End.mk ?_
   | refine brT ?_
   | refine brF ?_
   | (refine brT' ?_ ?_; focus with_reducible assumption)
   | (refine brF' ?_ ?_; focus with_reducible assumption)
   | (refine Br.mk ?_ ?_ <;> (intro hb; have h := hb; (try simp only [decide_eq_true_eq, decide_eq_false_iff_not, Bool.not_eq_true', Bool.not_eq_false', Bool.not_eq_eq_eq_not, Bool.not_true, Bool.not_false, ge_iff_le, gt_iff_lt, Bool.and_eq_true, Bool.and_eq_false_iff, Bool.or_eq_true, Bool.or_eq_false_iff, beq_self_eq_true, not_true_eq_false, and_self, Bool.true_eq_false, Bool.false_eq_true, not_false_eq_true] at h); (try dsimp only [EL.len] at h); (try (exfalso; first | omega | exact Bool.noConfusion (h.symm.trans (by with_reducible assumption : _ = true)) | exact Bool.noConfusion (h.symm.trans (by with_reducible assumption : _ = false))))))
   | (refine fun (y : Int) (h0 : 0 ≤ y) h1 => ?_))
  refine LoopG.inv {t : Nat × List (Int × Int) × Int // (t.1 : Int) ≤ y ∧ t.2.1.length = t.1 ∧ p + 5 ≤ t.2.2 ∧ t.2.2 ≤ p + 5 + 4 * t.1} (fun ⟨(k, _, _), _⟩ => [(5, .l (.v (.int .i64 k))), (9, .j), (15, .j)]) (fun ⟨(_, il, p'), _⟩ => [(0, .b [.fx v0 (.bytes l), .v (.int .i64 p')] 107), (2, .r 0 45 (.gots il)), (3, .b [.v (.int .i64 (1 + ya)), .v (.int .i64 (1 + yd)), .s 2 0, .v (.bool (decide (yb = 0))), .v (.int .i64 yc)] 42)]) (fun ⟨(k, _, _), _⟩ => y.toNat - k) ⟨(0, [], p + 1 + 1 + 1 + 1 + 1), (show ((0 : Nat) : Int) ≤ y by omega), rfl, (show p + 5 ≤ p + 1 + 1 + 1 + 1 + 1 by omega), (show p + 1 + 1 + 1 + 1 + 1 ≤ p + 5 + 4 * ((0 : Nat) : Int) by omega)⟩ [0, 1, 2, 3] ?_ ?_
  · repeat' (first | (refine Side.mk ?_ ?_; focus (first | kernel_rfl | exact rfl | exact ⟨rfl, trivial⟩ | exact ⟨rfl, rfl, trivial⟩)) | exact True.intro)
  rintro ⟨⟨k, il, p'⟩, hk1, hk2, hk3, hk4⟩
  have gk1 : (k : Int) ≤ y := hk1
  have gk2 : il.length = k := hk2
  have gk3 : p + 5 ≤ p' := hk3
  have gk4 : p' ≤ p + 5 + 4 * k := hk4
  repeat' ((conv => whnf); first
   | (refine Side.mk ?_ ?_; focus (first | omega | kernel_rfl | with_reducible assumption | with_reducible exact rngI (by omega) | with_reducible exact rngB (by omega) | (dsimp only [EL.len]; first | omega | with_reducible exact rngI (by omega) | with_reducible exact rngB (by omega)) | exact rfl | (simp only [EL.len, EL.sz, EL.take, EL.drop, maxL, List.length_append, List.length_nil, List.length_cons, List.length_drop, List.length_take, List.nil_append]; omega) | (simp only [EL.len, EL.sz, EL.take, EL.drop, maxL, List.length_append, List.length_nil, List.length_cons, List.length_drop, List.length_take, List.nil_append] at *; omega) | (refine ⟨?_, ?_⟩ <;> omega) | exact ⟨rfl, trivial⟩ | exact ⟨rfl, rfl, trivial⟩ | exact ⟨⟨rfl, rfl, rfl, rfl⟩, trivial⟩ | (refine ⟨?_, ?_, ?_⟩ <;> first | omega | with_reducible exact rngI (by omega) | with_reducible exact rngB (by omega))))
   | (refine Fork.mk ?_ ?_; (intro K' hF; (conv at hF => whnf); (repeat ((first | (have hs := side_l hF; replace hF := side_r hF) | (replace hF := fork_r hF)); (conv at hF => whnf))); replace hF := end_r hF))
   | (refine End.mk ?_; exact hF)
   | refine End.mk ?_
   | refine brT ?_
   | refine brF ?_
   | (refine brT' ?_ ?_; focus with_reducible assumption)
   | (refine brF' ?_ ?_; focus with_reducible assumption)
   | (refine Br.mk ?_ ?_ <;> (intro hb; have h := hb; (try simp only [decide_eq_true_eq, decide_eq_false_iff_not, Bool.not_eq_true', Bool.not_eq_false', Bool.not_eq_eq_eq_not, Bool.not_true, Bool.not_false, ge_iff_le, gt_iff_lt, Bool.and_eq_true, Bool.and_eq_false_iff, Bool.or_eq_true, Bool.or_eq_false_iff, beq_self_eq_true, not_true_eq_false, and_self, Bool.true_eq_false, Bool.false_eq_true, not_false_eq_true] at h); (try dsimp only [EL.len] at h); (try (exfalso; first | omega | exact Bool.noConfusion (h.symm.trans (by with_reducible assumption : _ = true)) | exact Bool.noConfusion (h.symm.trans (by with_reducible assumption : _ = false))))))
   | (refine fun (y : Int) (h0 : 0 ≤ y) h1 => ?_))
  · intro gb gc p2 e1 e2
    repeat' ((conv => whnf); first
   | (refine Side.mk ?_ ?_; focus (first | omega | kernel_rfl | with_reducible assumption | with_reducible exact rngI (by omega) | with_reducible exact rngB (by omega) | (dsimp only [EL.len]; first | omega | with_reducible exact rngI (by omega) | with_reducible exact rngB (by omega)) | exact rfl | (simp only [EL.len, EL.sz, EL.take, EL.drop, maxL, List.length_append, List.length_nil, List.length_cons, List.length_drop, List.length_take, List.nil_append]; omega) | (simp only [EL.len, EL.sz, EL.take, EL.drop, maxL, List.length_append, List.length_nil, List.length_cons, List.length_drop, List.length_take, List.nil_append] at *; omega) | (refine ⟨?_, ?_⟩ <;> omega) | exact ⟨rfl, trivial⟩ | exact ⟨rfl, rfl, trivial⟩ | exact ⟨⟨rfl, rfl, rfl, rfl⟩, trivial⟩ | (refine ⟨?_, ?_, ?_⟩ <;> first | omega | with_reducible exact rngI (by omega) | with_reducible exact rngB (by omega))))
   | (refine Fork.mk ?_ ?_; (intro K' hF; (conv at hF => whnf); (repeat ((first | (have hs := side_l hF; replace hF := side_r hF) | (replace hF := fork_r hF)); (conv at hF => whnf))); replace hF := end_r hF))
   | (refine End.mk ?_; exact hF)
   | refine End.mk ?_
   | refine brT ?_
   | refine brF ?_
   | (refine brT' ?_ ?_; focus with_reducible assumption)
   | (refine brF' ?_ ?_; focus with_reducible assumption)
   | (refine Br.mk ?_ ?_ <;> (intro hb; have h := hb; (try simp only [decide_eq_true_eq, decide_eq_false_iff_not, Bool.not_eq_true', Bool.not_eq_false', Bool.not_eq_eq_eq_not, Bool.not_true, Bool.not_false, ge_iff_le, gt_iff_lt, Bool.and_eq_true, Bool.and_eq_false_iff, Bool.or_eq_true, Bool.or_eq_false_iff, beq_self_eq_true, not_true_eq_false, and_self, Bool.true_eq_false, Bool.false_eq_true, not_false_eq_true] at h); (try dsimp only [EL.len] at h); (try (exfalso; first | omega | exact Bool.noConfusion (h.symm.trans (by with_reducible assumption : _ = true)) | exact Bool.noConfusion (h.symm.trans (by with_reducible assumption : _ = false))))))
   | (refine fun (y : Int) (h0 : 0 ≤ y) h1 => ?_))
    have f1 : ((k + 1 : Nat) : Int) ≤ _ := h
    have f2 : (il ++ [(gb, gc)]).length = k + 1 := by rw [List.length_append, gk2]; rfl
    (refine Exists.intro ⟨(k + 1, il ++ [(gb, gc)], p2), f1, f2, (show p + 5 ≤ p2 by omega), (show p2 ≤ p + 5 + 4 * ((k + 1 : Nat) : Int) by omega)⟩ (Exists.intro [0, 1, 2, 3] (And.intro ?_ ?_)))
    · show Int.toNat _ - (k + 1) < Int.toNat _ - k
      omega
    · repeat' (first | (refine Side.mk ?_ ?_; focus (first | kernel_rfl | exact rfl | exact ⟨rfl, trivial⟩ | exact ⟨rfl, rfl, trivial⟩)) | exact True.intro)
  · conv => whnf
    refine Fork.mk ?_ ?_
    · intro K' hF
      conv at hF => whnf
      repeat ((have hs := side_l hF; replace hF := side_r hF); (conv at hF => whnf))
      repeat ((conv => whnf); (refine Side.mk ?_ ?_; focus (first | omega | kernel_rfl | with_reducible assumption | with_reducible exact rngI (by omega) | with_reducible exact rngB (by omega) | (dsimp only [EL.len]; first | omega | with_reducible exact rngI (by omega) | with_reducible exact rngB (by omega)) | exact rfl | (simp only [EL.len, EL.sz, EL.take, EL.drop, maxL, List.length_append, List.length_nil, List.length_cons, List.length_drop, List.length_take, List.nil_append]; omega) | (simp only [EL.len, EL.sz, EL.take, EL.drop, maxL, List.length_append, List.length_nil, List.length_cons, List.length_drop, List.length_take, List.nil_append] at *; omega) | (refine ⟨?_, ?_⟩ <;> omega) | exact ⟨rfl, trivial⟩ | exact ⟨rfl, rfl, trivial⟩ | exact ⟨⟨rfl, rfl, rfl, rfl⟩, trivial⟩ | (refine ⟨?_, ?_, ?_⟩ <;> first | omega | with_reducible exact rngI (by omega) | with_reducible exact rngB (by omega)))))
      conv => whnf
      refine fun (y : Int) (h0 : 0 ≤ y) h1 => ?_
      replace hF := hF y h0 h1
      conv at hF => whnf
      repeat ((have hs := side_l hF; replace hF := side_r hF); (conv at hF => whnf))
      replace hF := end_r hF
      repeat' ((conv => whnf); first
   | (refine Side.mk ?_ ?_; focus (first | omega | kernel_rfl | with_reducible assumption | with_reducible exact rngI (by omega) | with_reducible exact rngB (by omega) | (dsimp only [EL.len]; first | omega | with_reducible exact rngI (by omega) | with_reducible exact rngB (by omega)) | exact rfl | (simp only [EL.len, EL.sz, EL.take, EL.drop, maxL, List.length_append, List.length_nil, List.length_cons, List.length_drop, List.length_take, List.nil_append]; omega) | (simp only [EL.len, EL.sz, EL.take, EL.drop, maxL, List.length_append, List.length_nil, List.length_cons, List.length_drop, List.length_take, List.nil_append] at *; omega) | (refine ⟨?_, ?_⟩ <;> omega) | exact ⟨rfl, trivial⟩ | exact ⟨rfl, rfl, trivial⟩ | exact ⟨⟨rfl, rfl, rfl, rfl⟩, trivial⟩ | (refine ⟨?_, ?_, ?_⟩ <;> first | omega | with_reducible exact rngI (by omega) | with_reducible exact rngB (by omega))))
   | (refine Fork.mk ?_ ?_; (intro K' hF; (conv at hF => whnf); (repeat ((first | (have hs := side_l hF; replace hF := side_r hF) | (replace hF := fork_r hF)); (conv at hF => whnf))); replace hF := end_r hF))
   | (refine End.mk ?_; exact hF)
   | refine End.mk ?_
   | refine brT ?_
   | refine brF ?_
   | (refine brT' ?_ ?_; focus with_reducible assumption)
   | (refine brF' ?_ ?_; focus with_reducible assumption)
   | (refine Br.mk ?_ ?_ <;> (intro hb; have h := hb; (try simp only [decide_eq_true_eq, decide_eq_false_iff_not, Bool.not_eq_true', Bool.not_eq_false', Bool.not_eq_eq_eq_not, Bool.not_true, Bool.not_false, ge_iff_le, gt_iff_lt, Bool.and_eq_true, Bool.and_eq_false_iff, Bool.or_eq_true, Bool.or_eq_false_iff, beq_self_eq_true, not_true_eq_false, and_self, Bool.true_eq_false, Bool.false_eq_true, not_false_eq_true] at h); (try dsimp only [EL.len] at h); (try (exfalso; first | omega | exact Bool.noConfusion (h.symm.trans (by with_reducible assumption : _ = true)) | exact Bool.noConfusion (h.symm.trans (by with_reducible assumption : _ = false))))))
   | (refine fun (y : Int) (h0 : 0 ≤ y) h1 => ?_))
    · repeat' ((conv => whnf); first
   | (refine Side.mk ?_ ?_; focus (first | omega | kernel_rfl | with_reducible assumption | with_reducible exact rngI (by omega) | with_reducible exact rngB (by omega) | (dsimp only [EL.len]; first | omega | with_reducible exact rngI (by omega) | with_reducible exact rngB (by omega)) | exact rfl | (simp only [EL.len, EL.sz, EL.take, EL.drop, maxL, List.length_append, List.length_nil, List.length_cons, List.length_drop, List.length_take, List.nil_append]; omega) | (simp only [EL.len, EL.sz, EL.take, EL.drop, maxL, List.length_append, List.length_nil, List.length_cons, List.length_drop, List.length_take, List.nil_append] at *; omega) | (refine ⟨?_, ?_⟩ <;> omega) | exact ⟨rfl, trivial⟩ | exact ⟨rfl, rfl, trivial⟩ | exact ⟨⟨rfl, rfl, rfl, rfl⟩, trivial⟩ | (refine ⟨?_, ?_, ?_⟩ <;> first | omega | with_reducible exact rngI (by omega) | with_reducible exact rngB (by omega))))
   | (refine Fork.mk ?_ ?_; (intro K' hF; (conv at hF => whnf); (repeat ((first | (have hs := side_l hF; replace hF := side_r hF) | (replace hF := fork_r hF)); (conv at hF => whnf))); replace hF := end_r hF))
   | (refine End.mk ?_; exact hF)
   | refine End.mk ?_
   | refine brT ?_
   | refine brF ?_
   | (refine brT' ?_ ?_; focus with_reducible assumption)
   | (refine brF' ?_ ?_; focus with_reducible assumption)
   | (refine Br.mk ?_ ?_ <;> (intro hb; have h := hb; (try simp only [decide_eq_true_eq, decide_eq_false_iff_not, Bool.not_eq_true', Bool.not_eq_false', Bool.not_eq_eq_eq_not, Bool.not_true, Bool.not_false, ge_iff_le, gt_iff_lt, Bool.and_eq_true, Bool.and_eq_false_iff, Bool.or_eq_true, Bool.or_eq_false_iff, beq_self_eq_true, not_true_eq_false, and_self, Bool.true_eq_false, Bool.false_eq_true, not_false_eq_true] at h); (try dsimp only [EL.len] at h); (try (exfalso; first | omega | exact Bool.noConfusion (h.symm.trans (by with_reducible assumption : _ = true)) | exact Bool.noConfusion (h.symm.trans (by with_reducible assumption : _ = false))))))
   | (refine fun (y : Int) (h0 : 0 ≤ y) h1 => ?_))
      all_goals
        refine Exists.intro _ (Exists.intro _ (And.intro ?_ (hK ?_ ?_ il ?_ ?_ ?_ (by omega) ?_ ?_)))
        · repeat' (first | (refine Side.mk ?_ ?_; focus (first | with_reducible exact rfl | exact Eq.refl true | exact Eq.refl false)) | (refine Side.mk ?_ ?_) | exact True.intro)
        all_goals omega
  all_goals
    refine Exists.intro _ (Exists.intro _ (And.intro ?_ (hK ?_ ?_ il ?_ ?_ ?_ (by omega) ?_ ?_)))
    · repeat' (first | (refine Side.mk ?_ ?_; focus (first | with_reducible exact rfl | exact Eq.refl true | exact Eq.refl false)) | (refine Side.mk ?_ ?_) | exact True.intro)
    all_goals omega
def c_s_l91Recv : CS := csB 107 [] (fun p _ K => Side (0 ≤ p ∧ p ≤ 900000) <| ∀ (r t : Int) (l : List (Int × Int)) (o : Bool) (a p' : Int), l.length ≤ 100 → p ≤ p' → p' ≤ p + 100 → K (.a (Rcv.d ⟨r, t, l, o, a⟩)) p')
theorem c_s_l91Recv_ok : CSok Try.prog 69 c_s_l91Recv := csB_ok (by kernel_rfl) con_s_l91Recv

def env_s_DrawRecvTake : Env := [(56, c_s_l6Open), (69, c_s_l91Recv)]
theorem env_s_DrawRecvTake_ok : EnvOk Try.prog env_s_DrawRecvTake := envAll_ok ⟨c_s_l6Open_ok, c_s_l91Recv_ok, trivial⟩
def tr_s_DrawRecvTake : Nat → Tr := fun n => match n with
  | _ => .nil
set_option maxRecDepth 100000 in
set_option maxHeartbeats 2000000 in
theorem con_s_DrawRecvTake : Con Try.prog 28 [.inl .bytes] (fun _ K => ∀ (r t : Int) (l : List (Int × Int)) (o : Bool) (a : Int), l.length ≤ 100 → K (.a (Rcv.d ⟨r, t, l, o, a⟩))) := by
  refine con_ofN (TR := tr_s_DrawRecvTake) tab_ok mixed_ok env_s_DrawRecvTake_ok Try.func28 rfl ?_
  rintro ⟨(c : List UInt8), _⟩ K hK ⟨hl, _⟩
  replace hl : c.length ≤ 1099511627776 := hl
  repeat' ((conv => whnf); first
   | (refine Side.mk ?_ ?_; focus (first | omega | kernel_rfl | with_reducible assumption | with_reducible exact rngI (by omega) | with_reducible exact rngB (by omega) | (dsimp only [EL.len]; first | omega | with_reducible exact rngI (by omega) | with_reducible exact rngB (by omega)) | exact rfl | (simp only [EL.len, EL.sz, EL.take, EL.drop, maxL, List.length_append, List.length_nil, List.length_cons, List.length_drop, List.length_take, List.nil_append]; omega) | (simp only [EL.len, EL.sz, EL.take, EL.drop, maxL, List.length_append, List.length_nil, List.length_cons, List.length_drop, List.length_take, List.nil_append] at *; omega) | (refine ⟨?_, ?_⟩ <;> omega) | exact ⟨rfl, trivial⟩ | exact ⟨rfl, rfl, trivial⟩ | exact ⟨⟨rfl, rfl, rfl, rfl⟩, trivial⟩ | (refine ⟨?_, ?_, ?_⟩ <;> first | omega | with_reducible exact rngI (by omega) | with_reducible exact rngB (by omega))))
   | (refine Fork.mk ?_ ?_; (intro K' hF; (conv at hF => whnf); (repeat ((first | (have hs := side_l hF; replace hF := side_r hF) | (replace hF := fork_r hF)); (conv at hF => whnf))); replace hF := end_r hF))
   | (refine End.mk ?_; exact hF)
   | refine End.mk ?_
   | refine brT ?_
   | refine brF ?_
   | (refine brT' ?_ ?_; focus with_reducible assumption)
   | (refine brF' ?_ ?_; focus with_reducible assumption)
   | (refine Br.mk ?_ ?_ <;> (intro hb; have h := hb; (try simp only [decide_eq_true_eq, decide_eq_false_iff_not, Bool.not_eq_true', Bool.not_eq_false', Bool.not_eq_eq_eq_not, Bool.not_true, Bool.not_false, ge_iff_le, gt_iff_lt, Bool.and_eq_true, Bool.and_eq_false_iff, Bool.or_eq_true, Bool.or_eq_false_iff, beq_self_eq_true, not_true_eq_false, and_self, Bool.true_eq_false, Bool.false_eq_true, not_false_eq_true] at h); (try dsimp only [EL.len] at h); (try (exfalso; first | omega | exact Bool.noConfusion (h.symm.trans (by with_reducible assumption : _ = true)) | exact Bool.noConfusion (h.symm.trans (by with_reducible assumption : _ = false))))))
   | (refine fun (y : Int) (h0 : 0 ≤ y) h1 => ?_))
  all_goals
    intro r t l o a p' h1 h2 h3
    repeat' ((conv => whnf); first
   | (refine Side.mk ?_ ?_; focus (first | omega | kernel_rfl | with_reducible assumption | with_reducible exact rngI (by omega) | with_reducible exact rngB (by omega) | (dsimp only [EL.len]; first | omega | with_reducible exact rngI (by omega) | with_reducible exact rngB (by omega)) | exact rfl | (simp only [EL.len, EL.sz, EL.take, EL.drop, maxL, List.length_append, List.length_nil, List.length_cons, List.length_drop, List.length_take, List.nil_append]; omega) | (simp only [EL.len, EL.sz, EL.take, EL.drop, maxL, List.length_append, List.length_nil, List.length_cons, List.length_drop, List.length_take, List.nil_append] at *; omega) | (refine ⟨?_, ?_⟩ <;> omega) | exact ⟨rfl, trivial⟩ | exact ⟨rfl, rfl, trivial⟩ | exact ⟨⟨rfl, rfl, rfl, rfl⟩, trivial⟩ | (refine ⟨?_, ?_, ?_⟩ <;> first | omega | with_reducible exact rngI (by omega) | with_reducible exact rngB (by omega))))
   | (refine Fork.mk ?_ ?_; (intro K' hF; (conv at hF => whnf); (repeat ((first | (have hs := side_l hF; replace hF := side_r hF) | (replace hF := fork_r hF)); (conv at hF => whnf))); replace hF := end_r hF))
   | (refine End.mk ?_; exact hF)
   | refine End.mk ?_
   | refine brT ?_
   | refine brF ?_
   | (refine brT' ?_ ?_; focus with_reducible assumption)
   | (refine brF' ?_ ?_; focus with_reducible assumption)
   | (refine Br.mk ?_ ?_ <;> (intro hb; have h := hb; (try simp only [decide_eq_true_eq, decide_eq_false_iff_not, Bool.not_eq_true', Bool.not_eq_false', Bool.not_eq_eq_eq_not, Bool.not_true, Bool.not_false, ge_iff_le, gt_iff_lt, Bool.and_eq_true, Bool.and_eq_false_iff, Bool.or_eq_true, Bool.or_eq_false_iff, beq_self_eq_true, not_true_eq_false, and_self, Bool.true_eq_false, Bool.false_eq_true, not_false_eq_true] at h); (try dsimp only [EL.len] at h); (try (exfalso; first | omega | exact Bool.noConfusion (h.symm.trans (by with_reducible assumption : _ = true)) | exact Bool.noConfusion (h.symm.trans (by with_reducible assumption : _ = false))))))
   | (refine fun (y : Int) (h0 : 0 ≤ y) h1 => ?_))
    refine Exists.intro _ (And.intro ?_ (hK r t l o a h1))
    repeat' (first | (refine Side.mk ?_ ?_; focus (first | with_reducible exact rfl | exact Eq.refl true | exact Eq.refl false)) | (refine Side.mk ?_ ?_) | exact True.intro)
def c_s_DrawRecvTake : CS := csOf [.inl .bytes] (fun _ K => ∀ (r t : Int) (l : List (Int × Int)) (o : Bool) (a : Int), l.length ≤ 100 → K (.a (Rcv.d ⟨r, t, l, o, a⟩)))
theorem c_s_DrawRecvTake_ok : CSok Try.prog 28 c_s_DrawRecvTake := cs_ok (by kernel_rfl) con_s_DrawRecvTake

end Go.Proofs.Ytednhgiabpgleaa
