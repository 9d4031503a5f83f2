/-
  The oldest byte is taken, by the abstract walk.
-/
import Derived.Test.YtednhgiabpgleaaR2
import Derived.Test.YtednhgiabpgleaaR3
import Derived.Test.YtednhgiabpgleaaRecvM
namespace Go.Proofs.Ytednhgiabpgleaa
open Go.RowKit
open Ab
set_option linter.unusedSimpArgs false
set_option linter.unusedVariables false

theorem rtake_ok {x : Rcv} (h : (rtakeR x).ok = true) : rcvV x = true ∧ ∃ g l, x.items = g :: l ∧ rtakeR x = ⟨⟨x.room, x.trig, l, x.lost, 0⟩, g, true⟩ := by
  cases hv : rcvV x with
  | false => simp [rtakeR, hv] at h
  | true =>
    refine ⟨rfl, ?_⟩
    cases hl : x.items with
    | nil => simp [rtakeR, hv, hl] at h
    | cons g l => exact ⟨g, l, rfl, by simp [rtakeR, hv, hl]⟩

theorem rtake_valid {r t : Int} {g : Int × Int} {m : List (Int × Int)} {o : Bool} {a : Int} (h : rcvV ⟨r, t, g :: m, o, a⟩ = true) : rcvV ⟨r, t, m, o, 0⟩ = true := by
  have hb := rcvV_bd h
  dsimp only at hb
  obtain ⟨h1, h2, h3, h4, h5⟩ := hb
  refine rcvV_yes h1 h2 ?_ (by omega) ?_
  · simp at h3
    omega
  · simp only [allG, List.all_cons, Bool.and_eq_true] at h5
    exact h5.2

def env_l_FnRecvTake : Env := [(28, c_s_DrawRecvTake), (29, c_i_RecvTake), (30, c_s_RecvTake), (31, c_l_sameRecv), (32, c_i_RecvValid), (33, c_l_sameGot)]
theorem env_l_FnRecvTake_ok : EnvOk Try.prog env_l_FnRecvTake := envAll_ok ⟨c_s_DrawRecvTake_ok, c_i_RecvTake_ok, c_s_RecvTake_ok, c_l_sameRecv_ok, c_i_RecvValid_ok, c_l_sameGot_ok, trivial⟩
def tr_l_FnRecvTake : Nat → Tr := fun n => match n with
  | 8 => .op 0 1 (.op 1 1 (.op 2 1 (.op 3 0 (.op 4 1 (.op 5 1 (.op 6 1 (.op 7 1 (.op 8 1 (.op 9 1 (.op 10 1 (.op 11 0 (.op 12 0 (.op 13 1 (.op 14 1 (.op 15 1 (.op 16 1 (.op 17 1 (.op 18 1 (.op 19 0 (.op 20 0 (.op 21 1 (.op 22 1 (.op 23 1 (.op 24 1 (.op 25 1 (.op 26 1 (.op 27 1 (.op 28 1 (.op 29 1 (.op 30 2 (.nil)))))))))))))))))))))))))))))))
  | _ => .nil
set_option maxRecDepth 100000 in
set_option maxHeartbeats 2000000 in
theorem con_l_FnRecvTake : Con Try.prog 6 [.inl .bytes] (fun _ K => K (.l (.v (.bool true)))) := by
  refine con_ofN (TR := tr_l_FnRecvTake) tab_ok mixed_ok env_l_FnRecvTake_ok Try.func6 rfl ?_
  rintro ⟨(c : List UInt8), _⟩ K hK ⟨hl, _⟩
  replace hl : c.length ≤ 1099511627776 := hl
  repeat' ((conv => whnf); first
   | (refine Side.mk ?_ ?_; focus (first | omega | kernel_rfl | with_reducible assumption | with_reducible exact rngI (by omega) | with_reducible exact rngB (by omega) | (dsimp only [EL.len]; first | omega | with_reducible exact rngI (by omega) | with_reducible exact rngB (by omega)) | exact rfl | (simp only [EL.len, EL.sz, EL.take, EL.drop, maxL, List.length_append, List.length_nil, List.length_cons, List.length_drop, List.length_take, List.nil_append]; omega) | (simp only [EL.len, EL.sz, EL.take, EL.drop, maxL, List.length_append, List.length_nil, List.length_cons, List.length_drop, List.length_take, List.nil_append] at *; omega) | (refine ⟨?_, ?_⟩ <;> omega) | exact ⟨rfl, trivial⟩ | exact ⟨rfl, rfl, trivial⟩ | exact ⟨⟨rfl, rfl, rfl, rfl⟩, trivial⟩ | (refine ⟨?_, ?_, ?_⟩ <;> first | omega | with_reducible exact rngI (by omega) | with_reducible exact rngB (by omega))))
   | (refine Fork.mk ?_ ?_; (intro K' hF; (conv at hF => whnf); (repeat ((first | (have hs := side_l hF; replace hF := side_r hF) | (replace hF := fork_r hF)); (conv at hF => whnf))); replace hF := end_r hF))
   | (refine End.mk ?_; exact hF)
   | refine End.mk ?_
   | refine brT ?_
   | refine brF ?_
   | (refine brT' ?_ ?_; focus with_reducible assumption)
   | (refine brF' ?_ ?_; focus with_reducible assumption)
   | (refine Br.mk ?_ ?_ <;> (intro hb; have h := hb; (try simp only [decide_eq_true_eq, decide_eq_false_iff_not, Bool.not_eq_true', Bool.not_eq_false', Bool.not_eq_eq_eq_not, Bool.not_true, Bool.not_false, ge_iff_le, gt_iff_lt, Bool.and_eq_true, Bool.and_eq_false_iff, Bool.or_eq_true, Bool.or_eq_false_iff, beq_self_eq_true, not_true_eq_false, and_self, Bool.true_eq_false, Bool.false_eq_true, not_false_eq_true] at h); (try dsimp only [EL.len] at h); (try (exfalso; first | omega | exact Bool.noConfusion (h.symm.trans (by with_reducible assumption : _ = true)) | exact Bool.noConfusion (h.symm.trans (by with_reducible assumption : _ = false))))))
   | (refine fun (y : Int) (h0 : 0 ≤ y) h1 => ?_))
  · (refine Exists.intro _ (And.intro ?_ hK); repeat' (first | (refine Side.mk ?_ ?_; focus (first | with_reducible exact rfl | exact Eq.refl true | exact Eq.refl false)) | (refine Side.mk ?_ ?_) | exact True.intro))
  intro r t l o a h1
  by_cases hok : (rtakeR ⟨r, t, l, o, a⟩).ok = true
  · obtain ⟨hv, g, m, e, hr⟩ := rtake_ok hok
    have e : l = g :: m := e
    subst e
    have hv2 : rcvV (rtakeR ⟨r, t, g :: m, o, a⟩).r = true := by rw [hr]; exact rtake_valid hv
    have hbd := rcvV_bd hv
    dsimp only at hbd
    simp only [List.length_cons] at h1 hbd
    repeat' ((conv => whnf); first
   | (refine Side.mk ?_ ?_; focus (first | omega | kernel_rfl | with_reducible assumption | with_reducible exact rngI (by omega) | with_reducible exact rngB (by omega) | (dsimp only [EL.len]; first | omega | with_reducible exact rngI (by omega) | with_reducible exact rngB (by omega)) | exact rfl | (simp only [EL.len, EL.sz, EL.take, EL.drop, maxL, List.length_append, List.length_nil, List.length_cons, List.length_drop, List.length_take, List.nil_append]; omega) | (simp only [EL.len, EL.sz, EL.take, EL.drop, maxL, List.length_append, List.length_nil, List.length_cons, List.length_drop, List.length_take, List.nil_append] at *; omega) | (refine ⟨?_, ?_⟩ <;> omega) | exact ⟨rfl, trivial⟩ | exact ⟨rfl, rfl, trivial⟩ | exact ⟨⟨rfl, rfl, rfl, rfl⟩, trivial⟩ | (refine ⟨?_, ?_, ?_⟩ <;> first | omega | with_reducible exact rngI (by omega) | with_reducible exact rngB (by omega))))
   | (refine Fork.mk ?_ ?_; (intro K' hF; (conv at hF => whnf); (repeat ((first | (have hs := side_l hF; replace hF := side_r hF) | (replace hF := fork_r hF)); (conv at hF => whnf))); replace hF := end_r hF))
   | (refine End.mk ?_; exact hF)
   | refine End.mk ?_
   | refine brT ?_
   | refine brF ?_
   | (refine brT' ?_ ?_; focus with_reducible assumption)
   | (refine brF' ?_ ?_; focus with_reducible assumption)
   | (refine Br.mk ?_ ?_ <;> (intro hb; have h := hb; (try simp only [decide_eq_true_eq, decide_eq_false_iff_not, Bool.not_eq_true', Bool.not_eq_false', Bool.not_eq_eq_eq_not, Bool.not_true, Bool.not_false, ge_iff_le, gt_iff_lt, Bool.and_eq_true, Bool.and_eq_false_iff, Bool.or_eq_true, Bool.or_eq_false_iff, beq_self_eq_true, not_true_eq_false, and_self, Bool.true_eq_false, Bool.false_eq_true, not_false_eq_true] at h); (try dsimp only [EL.len] at h); (try (exfalso; first | omega | exact Bool.noConfusion (h.symm.trans (by with_reducible assumption : _ = true)) | exact Bool.noConfusion (h.symm.trans (by with_reducible assumption : _ = false))))))
   | (refine fun (y : Int) (h0 : 0 ≤ y) h1 => ?_))
    all_goals (refine Exists.intro _ (And.intro ?_ hK); repeat' (first | (refine Side.mk ?_ ?_; focus (first | with_reducible exact rfl | exact Eq.refl true | exact Eq.refl false)) | (refine Side.mk ?_ ?_) | exact True.intro))
    all_goals
      clear hK
      first
      | (exfalso; rcases h with h | h | h <;> exact h.elim)
      | (simp [hr] at h; done)
      | (simp [hr]; done)
      | exact Bool.noConfusion (h.symm.trans hv2)
  · replace hok : (rtakeR ⟨r, t, l, o, a⟩).ok = false := by simpa using hok
    repeat' ((conv => whnf); first
   | (refine Side.mk ?_ ?_; focus (first | omega | kernel_rfl | with_reducible assumption | with_reducible exact rngI (by omega) | with_reducible exact rngB (by omega) | (dsimp only [EL.len]; first | omega | with_reducible exact rngI (by omega) | with_reducible exact rngB (by omega)) | exact rfl | (simp only [EL.len, EL.sz, EL.take, EL.drop, maxL, List.length_append, List.length_nil, List.length_cons, List.length_drop, List.length_take, List.nil_append]; omega) | (simp only [EL.len, EL.sz, EL.take, EL.drop, maxL, List.length_append, List.length_nil, List.length_cons, List.length_drop, List.length_take, List.nil_append] at *; omega) | (refine ⟨?_, ?_⟩ <;> omega) | exact ⟨rfl, trivial⟩ | exact ⟨rfl, rfl, trivial⟩ | exact ⟨⟨rfl, rfl, rfl, rfl⟩, trivial⟩ | (refine ⟨?_, ?_, ?_⟩ <;> first | omega | with_reducible exact rngI (by omega) | with_reducible exact rngB (by omega))))
   | (refine Fork.mk ?_ ?_; (intro K' hF; (conv at hF => whnf); (repeat ((first | (have hs := side_l hF; replace hF := side_r hF) | (replace hF := fork_r hF)); (conv at hF => whnf))); replace hF := end_r hF))
   | (refine End.mk ?_; exact hF)
   | refine End.mk ?_
   | refine brT ?_
   | refine brF ?_
   | (refine brT' ?_ ?_; focus with_reducible assumption)
   | (refine brF' ?_ ?_; focus with_reducible assumption)
   | (refine Br.mk ?_ ?_ <;> (intro hb; have h := hb; (try simp only [decide_eq_true_eq, decide_eq_false_iff_not, Bool.not_eq_true', Bool.not_eq_false', Bool.not_eq_eq_eq_not, Bool.not_true, Bool.not_false, ge_iff_le, gt_iff_lt, Bool.and_eq_true, Bool.and_eq_false_iff, Bool.or_eq_true, Bool.or_eq_false_iff, beq_self_eq_true, not_true_eq_false, and_self, Bool.true_eq_false, Bool.false_eq_true, not_false_eq_true] at h); (try dsimp only [EL.len] at h); (try (exfalso; first | omega | exact Bool.noConfusion (h.symm.trans (by with_reducible assumption : _ = true)) | exact Bool.noConfusion (h.symm.trans (by with_reducible assumption : _ = false))))))
   | (refine fun (y : Int) (h0 : 0 ≤ y) h1 => ?_))
    all_goals first
      | (exfalso; rcases h with h | h | h <;> exact h.elim)
      | ((refine Exists.intro _ (And.intro ?_ hK); repeat' (first | (refine Side.mk ?_ ?_; focus (first | with_reducible exact rfl | exact Eq.refl true | exact Eq.refl false)) | (refine Side.mk ?_ ?_) | exact True.intro)); simp)

set_option maxRecDepth 100000 in
set_option maxHeartbeats 2000000 in
theorem law_l_FnRecvTake (v : Value) (w : World) (h : CodeB w v) : Calls Try.prog 6 #[v] w fun e w2 => e = .returned (.bool true) ∧ Below w.heap.size w w2 := by
  refine law_ofN (TR := tr_l_FnRecvTake) tab_ok mixed_ok env_l_FnRecvTake_ok Try.func6 rfl (fun a n c hn => ?_) con_l_FnRecvTake v w h
  repeat' ((conv => whnf); first
   | (refine Side.mk ?_ ?_; focus (first | omega | kernel_rfl | with_reducible assumption | with_reducible exact rngI (by omega) | with_reducible exact rngB (by omega) | (dsimp only [EL.len]; first | omega | with_reducible exact rngI (by omega) | with_reducible exact rngB (by omega)) | exact rfl | (simp only [EL.len, EL.sz, EL.take, EL.drop, maxL, List.length_append, List.length_nil, List.length_cons, List.length_drop, List.length_take, List.nil_append]; omega) | (simp only [EL.len, EL.sz, EL.take, EL.drop, maxL, List.length_append, List.length_nil, List.length_cons, List.length_drop, List.length_take, List.nil_append] at *; omega) | (refine ⟨?_, ?_⟩ <;> omega) | exact ⟨rfl, trivial⟩ | exact ⟨rfl, rfl, trivial⟩ | exact ⟨⟨rfl, rfl, rfl, rfl⟩, trivial⟩ | (refine ⟨?_, ?_, ?_⟩ <;> first | omega | with_reducible exact rngI (by omega) | with_reducible exact rngB (by omega))))
   | (refine Fork.mk ?_ ?_; (intro K' hF; (conv at hF => whnf); (repeat ((first | (have hs := side_l hF; replace hF := side_r hF) | (replace hF := fork_r hF)); (conv at hF => whnf))); replace hF := end_r hF))
   | (refine End.mk ?_; exact hF)
   | refine End.mk ?_
   | refine brT ?_
   | refine brF ?_
   | (refine brT' ?_ ?_; focus with_reducible assumption)
   | (refine brF' ?_ ?_; focus with_reducible assumption)
   | (refine Br.mk ?_ ?_ <;> (intro hb; have h := hb; (try simp only [decide_eq_true_eq, decide_eq_false_iff_not, Bool.not_eq_true', Bool.not_eq_false', Bool.not_eq_eq_eq_not, Bool.not_true, Bool.not_false, ge_iff_le, gt_iff_lt, Bool.and_eq_true, Bool.and_eq_false_iff, Bool.or_eq_true, Bool.or_eq_false_iff, beq_self_eq_true, not_true_eq_false, and_self, Bool.true_eq_false, Bool.false_eq_true, not_false_eq_true] at h); (try dsimp only [EL.len] at h); (try (exfalso; first | omega | exact Bool.noConfusion (h.symm.trans (by with_reducible assumption : _ = true)) | exact Bool.noConfusion (h.symm.trans (by with_reducible assumption : _ = false))))))
   | (refine fun (y : Int) (h0 : 0 ≤ y) h1 => ?_))
  all_goals first | exact rfl | omega

end Go.Proofs.Ytednhgiabpgleaa
