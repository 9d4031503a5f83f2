/-
  The laws on a sender's ticks, by the abstract walk.
-/
import Derived.Test.YtednhgiabpgleaaS3
namespace Go.Proofs.Ytednhgiabpgleaa
open Go.RowKit
open Ab
set_option linter.unusedSimpArgs false
set_option linter.unusedVariables false

theorem tickR_ok {x : Snd} (h : (tickR x).ok = true) : sndV x = true := by
  cases hv : sndV x with
  | true => rfl
  | false => simp [tickR, hv] at h
theorem tickV_gone (x : Snd) : (tickV x).2 = (tick1 x).1 := by
  obtain ⟨r, l, s, f⟩ := x
  unfold tickV
  split
  · cases l <;> rfl
  · rfl
theorem gone_eq {x : Snd} (hv : sndV x = true) : (tickR x).gone = if x.shift = -1 then -1 else if x.left = 1 then x.shift else -1 := by
  simp only [tickR, hv, if_true, tickV_gone, tick1]
  split
  · rfl
  · split <;> rfl

def env_l_FnSendTickLeft : Env := [(40, c_s_DrawSendTick), (39, c_i_SendTick), (41, c_s_SendTick), (42, c_l_sameSend)]
theorem env_l_FnSendTickLeft_ok : EnvOk Try.prog env_l_FnSendTickLeft := envAll_ok ⟨c_s_DrawSendTick_ok, c_i_SendTick_ok, c_s_SendTick_ok, c_l_sameSend_ok, trivial⟩
def tr_l_FnSendTickLeft : Nat → Tr := fun n => match n with
  | _ => .nil
set_option maxRecDepth 100000 in
set_option maxHeartbeats 2000000 in
theorem con_l_FnSendTickLeft : Con Try.prog 11 [.inl .bytes] (fun _ K => K (.l (.v (.bool true)))) := by
  refine con_ofN (TR := tr_l_FnSendTickLeft) tab_ok mixed_ok env_l_FnSendTickLeft_ok Try.func11 rfl ?_
  rintro ⟨(c : List UInt8), _⟩ K hK ⟨hl, _⟩
  replace hl : c.length ≤ 1099511627776 := hl
  repeat' ((conv => whnf); first
   | (refine Side.mk ?_ ?_; focus (first | omega | kernel_rfl | with_reducible assumption | with_reducible exact rngI (by omega) | with_reducible exact rngB (by omega) | (dsimp only [EL.len]; first | omega | with_reducible exact rngI (by omega) | with_reducible exact rngB (by omega)) | exact rfl | (simp only [EL.len, EL.sz, EL.take, EL.drop, maxL, List.length_append, List.length_nil, List.length_cons, List.length_drop, List.length_take, List.nil_append]; omega) | (simp only [EL.len, EL.sz, EL.take, EL.drop, maxL, List.length_append, List.length_nil, List.length_cons, List.length_drop, List.length_take, List.nil_append] at *; omega) | (refine ⟨?_, ?_⟩ <;> omega) | exact ⟨rfl, trivial⟩ | exact ⟨rfl, rfl, trivial⟩ | exact ⟨⟨rfl, rfl, rfl, rfl⟩, trivial⟩ | (refine ⟨?_, ?_, ?_⟩ <;> first | omega | with_reducible exact rngI (by omega) | with_reducible exact rngB (by omega))))
   | (refine Fork.mk ?_ ?_; (intro K' hF; (conv at hF => whnf); (repeat ((first | (have hs := side_l hF; replace hF := side_r hF) | (replace hF := fork_r hF)); (conv at hF => whnf))); replace hF := end_r hF))
   | (refine End.mk ?_; exact hF)
   | refine End.mk ?_
   | refine brT ?_
   | refine brF ?_
   | (refine brT' ?_ ?_; focus with_reducible assumption)
   | (refine brF' ?_ ?_; focus with_reducible assumption)
   | (refine Br.mk ?_ ?_ <;> (intro hb; have h := hb; (try simp only [decide_eq_true_eq, decide_eq_false_iff_not, Bool.not_eq_true', Bool.not_eq_false', Bool.not_eq_eq_eq_not, Bool.not_true, Bool.not_false, ge_iff_le, gt_iff_lt, Bool.and_eq_true, Bool.and_eq_false_iff, Bool.or_eq_true, Bool.or_eq_false_iff, beq_self_eq_true, not_true_eq_false, and_self, Bool.true_eq_false, Bool.false_eq_true, not_false_eq_true] at h); (try dsimp only [EL.len] at h); (try (exfalso; first | omega | exact Bool.noConfusion (h.symm.trans (by with_reducible assumption : _ = true)) | exact Bool.noConfusion (h.symm.trans (by with_reducible assumption : _ = false))))))
   | (refine fun (y : Int) (h0 : 0 ≤ y) h1 => ?_))
  · (refine Exists.intro _ (And.intro ?_ hK); repeat' (first | (refine Side.mk ?_ ?_; focus (first | with_reducible exact rfl | exact Eq.refl true | exact Eq.refl false)) | (refine Side.mk ?_ ?_) | exact True.intro))
  intro r l s f h1
  repeat' ((conv => whnf); first
   | (refine Side.mk ?_ ?_; focus (first | omega | kernel_rfl | with_reducible assumption | with_reducible exact rngI (by omega) | with_reducible exact rngB (by omega) | (dsimp only [EL.len]; first | omega | with_reducible exact rngI (by omega) | with_reducible exact rngB (by omega)) | exact rfl | (simp only [EL.len, EL.sz, EL.take, EL.drop, maxL, List.length_append, List.length_nil, List.length_cons, List.length_drop, List.length_take, List.nil_append]; omega) | (simp only [EL.len, EL.sz, EL.take, EL.drop, maxL, List.length_append, List.length_nil, List.length_cons, List.length_drop, List.length_take, List.nil_append] at *; omega) | (refine ⟨?_, ?_⟩ <;> omega) | exact ⟨rfl, trivial⟩ | exact ⟨rfl, rfl, trivial⟩ | exact ⟨⟨rfl, rfl, rfl, rfl⟩, trivial⟩ | (refine ⟨?_, ?_, ?_⟩ <;> first | omega | with_reducible exact rngI (by omega) | with_reducible exact rngB (by omega))))
   | (refine Fork.mk ?_ ?_; (intro K' hF; (conv at hF => whnf); (repeat ((first | (have hs := side_l hF; replace hF := side_r hF) | (replace hF := fork_r hF)); (conv at hF => whnf))); replace hF := end_r hF))
   | (refine End.mk ?_; exact hF)
   | refine End.mk ?_
   | refine brT ?_
   | refine brF ?_
   | (refine brT' ?_ ?_; focus with_reducible assumption)
   | (refine brF' ?_ ?_; focus with_reducible assumption)
   | (refine Br.mk ?_ ?_ <;> (intro hb; have h := hb; (try simp only [decide_eq_true_eq, decide_eq_false_iff_not, Bool.not_eq_true', Bool.not_eq_false', Bool.not_eq_eq_eq_not, Bool.not_true, Bool.not_false, ge_iff_le, gt_iff_lt, Bool.and_eq_true, Bool.and_eq_false_iff, Bool.or_eq_true, Bool.or_eq_false_iff, beq_self_eq_true, not_true_eq_false, and_self, Bool.true_eq_false, Bool.false_eq_true, not_false_eq_true] at h); (try dsimp only [EL.len] at h); (try (exfalso; first | omega | exact Bool.noConfusion (h.symm.trans (by with_reducible assumption : _ = true)) | exact Bool.noConfusion (h.symm.trans (by with_reducible assumption : _ = false))))))
   | (refine fun (y : Int) (h0 : 0 ≤ y) h1 => ?_))
  all_goals (refine Exists.intro _ (And.intro ?_ hK); repeat' (first | (refine Side.mk ?_ ?_; focus (first | with_reducible exact rfl | exact Eq.refl true | exact Eq.refl false)) | (refine Side.mk ?_ ?_) | exact True.intro))
  · simp
  all_goals
    have hv := tickR_ok (x := ⟨r, l, s, f⟩) (by assumption)
    have hbd := sndV_bd hv
    dsimp only at hbd
    have hg := gone_eq hv
    dsimp only at hg
    dsimp only
    rw [hg]
    clear hK
    by_cases hs : s = -1 <;> by_cases hf : f = 1 <;> simp [hs, hf] <;> omega

set_option maxRecDepth 100000 in
set_option maxHeartbeats 2000000 in
theorem law_l_FnSendTickLeft (v : Value) (w : World) (h : CodeB w v) : Calls Try.prog 11 #[v] w fun e w2 => e = .returned (.bool true) ∧ Below w.heap.size w w2 := by
  refine law_ofN (TR := tr_l_FnSendTickLeft) tab_ok mixed_ok env_l_FnSendTickLeft_ok Try.func11 rfl (fun a n c hn => ?_) con_l_FnSendTickLeft v w h
  repeat' ((conv => whnf); first
   | (refine Side.mk ?_ ?_; focus (first | omega | kernel_rfl | with_reducible assumption | with_reducible exact rngI (by omega) | with_reducible exact rngB (by omega) | (dsimp only [EL.len]; first | omega | with_reducible exact rngI (by omega) | with_reducible exact rngB (by omega)) | exact rfl | (simp only [EL.len, EL.sz, EL.take, EL.drop, maxL, List.length_append, List.length_nil, List.length_cons, List.length_drop, List.length_take, List.nil_append]; omega) | (simp only [EL.len, EL.sz, EL.take, EL.drop, maxL, List.length_append, List.length_nil, List.length_cons, List.length_drop, List.length_take, List.nil_append] at *; omega) | (refine ⟨?_, ?_⟩ <;> omega) | exact ⟨rfl, trivial⟩ | exact ⟨rfl, rfl, trivial⟩ | exact ⟨⟨rfl, rfl, rfl, rfl⟩, trivial⟩ | (refine ⟨?_, ?_, ?_⟩ <;> first | omega | with_reducible exact rngI (by omega) | with_reducible exact rngB (by omega))))
   | (refine Fork.mk ?_ ?_; (intro K' hF; (conv at hF => whnf); (repeat ((first | (have hs := side_l hF; replace hF := side_r hF) | (replace hF := fork_r hF)); (conv at hF => whnf))); replace hF := end_r hF))
   | (refine End.mk ?_; exact hF)
   | refine End.mk ?_
   | refine brT ?_
   | refine brF ?_
   | (refine brT' ?_ ?_; focus with_reducible assumption)
   | (refine brF' ?_ ?_; focus with_reducible assumption)
   | (refine Br.mk ?_ ?_ <;> (intro hb; have h := hb; (try simp only [decide_eq_true_eq, decide_eq_false_iff_not, Bool.not_eq_true', Bool.not_eq_false', Bool.not_eq_eq_eq_not, Bool.not_true, Bool.not_false, ge_iff_le, gt_iff_lt, Bool.and_eq_true, Bool.and_eq_false_iff, Bool.or_eq_true, Bool.or_eq_false_iff, beq_self_eq_true, not_true_eq_false, and_self, Bool.true_eq_false, Bool.false_eq_true, not_false_eq_true] at h); (try dsimp only [EL.len] at h); (try (exfalso; first | omega | exact Bool.noConfusion (h.symm.trans (by with_reducible assumption : _ = true)) | exact Bool.noConfusion (h.symm.trans (by with_reducible assumption : _ = false))))))
   | (refine fun (y : Int) (h0 : 0 ≤ y) h1 => ?_))
  all_goals first | exact rfl | omega

end Go.Proofs.Ytednhgiabpgleaa
