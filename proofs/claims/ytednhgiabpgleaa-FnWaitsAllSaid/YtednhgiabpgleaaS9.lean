/-
  All bytes of a sender leave in order, by the abstract walk.
-/
import Derived.Test.YtednhgiabpgleaaS5
namespace Go.Proofs.Ytednhgiabpgleaa
open Go.RowKit
open Ab
set_option linter.unusedSimpArgs false
set_option linter.unusedVariables false

/-- The states of the loop: before the first round the sender's list is the one that was drawn. -/
def WSt (x0 : Snd) : Type := {p : Bool × Nat × Snd × List Int // (sndV p.2.2.1 = true ∧ (p.2.1 : Int) + waitsN p.2.2.1 = waitsN x0) ∧ (p.2.2.2 ++ pend p.2.2.1 = pend x0 ∧ p.2.2.2.length ≤ p.2.1) ∧ (p.1 = false → p.2.1 = 0 ∧ p.2.2.1 = x0 ∧ p.2.2.2 = [])}

theorem wst_next {S0 x : Snd} {k : Nat} {L : List Int} (gx1 : sndV x = true) (gx2 : (k : Int) + waitsN x = waitsN S0) (gx3 : L ++ pend x = pend S0) (gx4 : L.length ≤ k) (hlt : (k : Int) < waitsN S0) :
    (sndV (tickR x).s = true ∧ ((k + 1 : Nat) : Int) + waitsN (tickR x).s = waitsN S0) ∧ (0 ≤ (tickR x).gone → (L ++ [(tickR x).gone]) ++ pend (tickR x).s = pend S0 ∧ (L ++ [(tickR x).gone]).length ≤ k + 1) ∧ (¬ 0 ≤ (tickR x).gone → L ++ pend (tickR x).s = pend S0 ∧ L.length ≤ k + 1) := by
  have g1 := tick_waits gx1 (by omega)
  have gp := tick_pend gx1
  rw [tickR_t gx1]
  dsimp only
  refine ⟨⟨tick_valid gx1, by omega⟩, fun h => ?_, fun h => ?_⟩
  · rw [if_pos h] at gp
    exact ⟨by rw [List.append_assoc, gp, gx3], by simp; omega⟩
  · rw [if_neg h] at gp
    rw [List.nil_append] at gp
    exact ⟨by rw [gp, gx3], by omega⟩
theorem wst_end {S0 x : Snd} {k : Nat} {L : List Int} (gx1 : sndV x = true) (gx2 : (k : Int) + waitsN x = waitsN S0) (gx3 : L ++ pend x = pend S0) (hlt : ¬ (k : Int) < waitsN S0) : L = pend S0 := by
  have := waits_nonneg gx1
  rw [pend_nil gx1 (by omega), List.append_nil] at gx3
  exact gx3

def env_l_FnWaitsAll : Env := [(35, c_s_DrawSendWaits), (36, c_i_SendWaits), (37, c_s_SendWaits), (39, c_i_SendTick), (21, c_l_sameInts)]
theorem env_l_FnWaitsAll_ok : EnvOk Try.prog env_l_FnWaitsAll := envAll_ok ⟨c_s_DrawSendWaits_ok, c_i_SendWaits_ok, c_s_SendWaits_ok, c_i_SendTick_ok, c_l_sameInts_ok, trivial⟩
def tr_l_FnWaitsAll : Nat → Tr := fun n => match n with
  | _ => .nil
set_option maxRecDepth 100000 in
set_option maxHeartbeats 2000000 in
theorem con_l_FnWaitsAll : Con Try.prog 9 [.inl .bytes] (fun _ K => K (.l (.v (.bool true)))) := by
  refine con_ofN (TR := tr_l_FnWaitsAll) tab_ok mixed_ok env_l_FnWaitsAll_ok Try.func9 rfl ?_
  rintro ⟨(c : List UInt8), _⟩ K hK ⟨hl, _⟩
  replace hl : c.length ≤ 1099511627776 := hl
  repeat' ((conv => whnf); first
   | (refine Side.mk ?_ ?_; focus (first | omega | kernel_rfl | with_reducible assumption | with_reducible exact rngI (by omega) | with_reducible exact rngB (by omega) | (dsimp only [EL.len]; first | omega | with_reducible exact rngI (by omega) | with_reducible exact rngB (by omega)) | exact rfl | (simp only [EL.len, EL.sz, EL.take, EL.drop, maxL, List.length_append, List.length_nil, List.length_cons, List.length_drop, List.length_take, List.nil_append]; omega) | (simp only [EL.len, EL.sz, EL.take, EL.drop, maxL, List.length_append, List.length_nil, List.length_cons, List.length_drop, List.length_take, List.nil_append] at *; omega) | (refine ⟨?_, ?_⟩ <;> omega) | exact ⟨rfl, trivial⟩ | exact ⟨rfl, rfl, trivial⟩ | exact ⟨⟨rfl, rfl, rfl, rfl⟩, trivial⟩ | (refine ⟨?_, ?_, ?_⟩ <;> first | omega | with_reducible exact rngI (by omega) | with_reducible exact rngB (by omega))))
   | (refine Fork.mk ?_ ?_; (intro K' hF; (conv at hF => whnf); (repeat ((first | (have hs := side_l hF; replace hF := side_r hF) | (replace hF := fork_r hF)); (conv at hF => whnf))); replace hF := end_r hF))
   | (refine End.mk ?_; exact hF)
   | refine End.mk ?_
   | refine brT ?_
   | refine brF ?_
   | (refine brT' ?_ ?_; focus with_reducible assumption)
   | (refine brF' ?_ ?_; focus with_reducible assumption)
   | (refine Br.mk ?_ ?_ <;> (intro hb; have h := hb; (try simp only [decide_eq_true_eq, decide_eq_false_iff_not, Bool.not_eq_true', Bool.not_eq_false', Bool.not_eq_eq_eq_not, Bool.not_true, Bool.not_false, ge_iff_le, gt_iff_lt, Bool.and_eq_true, Bool.and_eq_false_iff, Bool.or_eq_true, Bool.or_eq_false_iff, beq_self_eq_true, not_true_eq_false, and_self, Bool.true_eq_false, Bool.false_eq_true, not_false_eq_true] at h); (try dsimp only [EL.len] at h); (try (exfalso; first | omega | exact Bool.noConfusion (h.symm.trans (by with_reducible assumption : _ = true)) | exact Bool.noConfusion (h.symm.trans (by with_reducible assumption : _ = false))))))
   | (refine fun (y : Int) (h0 : 0 ≤ y) h1 => ?_))
  · (refine Exists.intro _ (And.intro ?_ hK); repeat' (first | (refine Side.mk ?_ ?_; focus (first | with_reducible exact rfl | exact Eq.refl true | exact Eq.refl false)) | (refine Side.mk ?_ ?_) | exact True.intro))
  intro r l s f h1
  refine Classical.byCases (p := sndV ⟨r, l, s, f⟩ = true) (fun hv => ?_) (fun hv => ?_)
  · have hw := waits_nonneg hv
    repeat' ((conv => whnf); first
   | (refine Side.mk ?_ ?_; focus (first | omega | kernel_rfl | with_reducible assumption | with_reducible exact rngI (by omega) | with_reducible exact rngB (by omega) | (dsimp only [EL.len]; first | omega | with_reducible exact rngI (by omega) | with_reducible exact rngB (by omega)) | exact rfl | (simp only [EL.len, EL.sz, EL.take, EL.drop, maxL, List.length_append, List.length_nil, List.length_cons, List.length_drop, List.length_take, List.nil_append]; omega) | (simp only [EL.len, EL.sz, EL.take, EL.drop, maxL, List.length_append, List.length_nil, List.length_cons, List.length_drop, List.length_take, List.nil_append] at *; omega) | (refine ⟨?_, ?_⟩ <;> omega) | exact ⟨rfl, trivial⟩ | exact ⟨rfl, rfl, trivial⟩ | exact ⟨⟨rfl, rfl, rfl, rfl⟩, trivial⟩ | (refine ⟨?_, ?_, ?_⟩ <;> first | omega | with_reducible exact rngI (by omega) | with_reducible exact rngB (by omega))))
   | (refine Fork.mk ?_ ?_; (intro K' hF; (conv at hF => whnf); (repeat ((first | (have hs := side_l hF; replace hF := side_r hF) | (replace hF := fork_r hF)); (conv at hF => whnf))); replace hF := end_r hF))
   | (refine End.mk ?_; exact hF)
   | refine End.mk ?_
   | refine brT ?_
   | refine brF ?_
   | (refine brT' ?_ ?_; focus with_reducible assumption)
   | (refine brF' ?_ ?_; focus with_reducible assumption)
   | (refine Br.mk ?_ ?_ <;> (intro hb; have h := hb; (try simp only [decide_eq_true_eq, decide_eq_false_iff_not, Bool.not_eq_true', Bool.not_eq_false', Bool.not_eq_eq_eq_not, Bool.not_true, Bool.not_false, ge_iff_le, gt_iff_lt, Bool.and_eq_true, Bool.and_eq_false_iff, Bool.or_eq_true, Bool.or_eq_false_iff, beq_self_eq_true, not_true_eq_false, and_self, Bool.true_eq_false, Bool.false_eq_true, not_false_eq_true] at h); (try dsimp only [EL.len] at h); (try (exfalso; first | omega | exact Bool.noConfusion (h.symm.trans (by with_reducible assumption : _ = true)) | exact Bool.noConfusion (h.symm.trans (by with_reducible assumption : _ = false))))))
   | (refine fun (y : Int) (h0 : 0 ≤ y) h1 => ?_))
    refine LoopG.invP 1 (WSt ⟨r, l, s, f⟩) (fun ⟨(_, k, _), _⟩ => [(33, .j), (7, .l (.s 3 0)), (8, .l (.v (.int .i64 k)))]) (fun ⟨(b, _, x, L), _⟩ => match b with
      | false => []
      | true => [(2, .b [.v (.int .i64 x.room), .s 4 0, .v (.int .i64 x.shift), .v (.int .i64 x.left)] 54), (3, .r 0 3 (.ints L)), (4, .r 0 3 (.ints x.items))]) (fun ⟨(_, k, _), _⟩ => (waitsN ⟨r, l, s, f⟩).toNat - k) ⟨(false, 0, ⟨r, l, s, f⟩, []), ⟨hv, (show ((0 : Nat) : Int) + waitsN ⟨r, l, s, f⟩ = _ by omega)⟩, ⟨rfl, Nat.le_refl _⟩, fun _ => ⟨rfl, rfl, rfl⟩⟩ [0, 1, 2, 3, 4] ?_ ?_
    · repeat' (first | (refine Side.mk ?_ ?_; focus (first | kernel_rfl | exact rfl | exact ⟨rfl, trivial⟩ | exact ⟨rfl, rfl, trivial⟩)) | exact True.intro)
    rintro ⟨⟨b, k, ⟨xr, xl, xs, xf⟩, L⟩, ⟨hx1, hx2⟩, ⟨hx3, hx4⟩, hx5⟩
    have gx1 : sndV ⟨xr, xl, xs, xf⟩ = true := hx1
    have gx2 : (k : Int) + waitsN ⟨xr, xl, xs, xf⟩ = waitsN ⟨r, l, s, f⟩ := hx2
    have gx3 : L ++ pend ⟨xr, xl, xs, xf⟩ = pend ⟨r, l, s, f⟩ := hx3
    have gx4 : L.length ≤ k := hx4
    have gx5 : b = false → k = 0 ∧ (⟨xr, xl, xs, xf⟩ : Snd) = ⟨r, l, s, f⟩ ∧ L = [] := hx5
    have gw := waits_nonneg gx1
    have gt := tickR_t gx1
    have gok : (tickR ⟨xr, xl, xs, xf⟩).ok = true := by rw [gt]
    have gp := tick_pend gx1
    have gv := tick_valid gx1
    cases b with
    | false =>
      obtain ⟨rfl, e, rfl⟩ := gx5 rfl
      simp only [Snd.mk.injEq] at e
      obtain ⟨rfl, rfl, rfl, rfl⟩ := e
      repeat' ((conv => whnf); first
   | (refine Side.mk ?_ ?_; focus (first | omega | kernel_rfl | with_reducible assumption | with_reducible exact rngI (by omega) | with_reducible exact rngB (by omega) | (dsimp only [EL.len]; first | omega | with_reducible exact rngI (by omega) | with_reducible exact rngB (by omega)) | exact rfl | (simp only [EL.len, EL.sz, EL.take, EL.drop, maxL, List.length_append, List.length_nil, List.length_cons, List.length_drop, List.length_take, List.nil_append]; omega) | (simp only [EL.len, EL.sz, EL.take, EL.drop, maxL, List.length_append, List.length_nil, List.length_cons, List.length_drop, List.length_take, List.nil_append] at *; omega) | (refine ⟨?_, ?_⟩ <;> omega) | exact ⟨rfl, trivial⟩ | exact ⟨rfl, rfl, trivial⟩ | exact ⟨⟨rfl, rfl, rfl, rfl⟩, trivial⟩ | (refine ⟨?_, ?_, ?_⟩ <;> first | omega | with_reducible exact rngI (by omega) | with_reducible exact rngB (by omega))))
   | (refine Fork.mk ?_ ?_; (intro K' hF; (conv at hF => whnf); (repeat ((first | (have hs := side_l hF; replace hF := side_r hF) | (replace hF := fork_r hF)); (conv at hF => whnf))); replace hF := end_r hF))
   | (refine End.mk ?_; exact hF)
   | refine End.mk ?_
   | refine brT ?_
   | refine brF ?_
   | (refine brT' ?_ ?_; focus with_reducible assumption)
   | (refine brF' ?_ ?_; focus with_reducible assumption)
   | (refine Br.mk ?_ ?_ <;> (intro hb; have h := hb; (try simp only [decide_eq_true_eq, decide_eq_false_iff_not, Bool.not_eq_true', Bool.not_eq_false', Bool.not_eq_eq_eq_not, Bool.not_true, Bool.not_false, ge_iff_le, gt_iff_lt, Bool.and_eq_true, Bool.and_eq_false_iff, Bool.or_eq_true, Bool.or_eq_false_iff, beq_self_eq_true, not_true_eq_false, and_self, Bool.true_eq_false, Bool.false_eq_true, not_false_eq_true] at h); (try dsimp only [EL.len] at h); (try (exfalso; first | omega | exact Bool.noConfusion (h.symm.trans (by with_reducible assumption : _ = true)) | exact Bool.noConfusion (h.symm.trans (by with_reducible assumption : _ = false))))))
   | (refine fun (y : Int) (h0 : 0 ≤ y) h1 => ?_))
      · obtain ⟨n1, n2, n3⟩ := wst_next gx1 gx2 gx3 gx4 (by omega)
        (refine Exists.intro ⟨(true, 0 + 1, (tickR ⟨xr, xl, xs, xf⟩).s, [] ++ [(tickR ⟨xr, xl, xs, xf⟩).gone]), n1, n2 (by assumption), fun e => by cases e⟩ (Exists.intro [0, 1, 2, 3, 5] (And.intro ?_ ?_)))
        · show (waitsN _).toNat - (0 + 1) < (waitsN _).toNat - 0
          omega
        · repeat' (first | (refine Side.mk ?_ ?_; focus (first | kernel_rfl | exact rfl | exact ⟨rfl, trivial⟩ | exact ⟨rfl, rfl, trivial⟩)) | exact True.intro)
      · obtain ⟨n1, n2, n3⟩ := wst_next gx1 gx2 gx3 gx4 (by omega)
        (refine Exists.intro ⟨(true, 0 + 1, (tickR ⟨xr, xl, xs, xf⟩).s, []), n1, n3 (by assumption), fun e => by cases e⟩ (Exists.intro [0, 1, 2, 3, 5] (And.intro ?_ ?_)))
        · show (waitsN _).toNat - (0 + 1) < (waitsN _).toNat - 0
          omega
        · repeat' (first | (refine Side.mk ?_ ?_; focus (first | kernel_rfl | exact rfl | exact ⟨rfl, trivial⟩ | exact ⟨rfl, rfl, trivial⟩)) | exact True.intro)
      all_goals
        have q := wst_end gx1 gx2 gx3 (by assumption)
        (refine Exists.intro _ (And.intro ?_ hK); repeat' (first | (refine Side.mk ?_ ?_; focus (first | with_reducible exact rfl | exact Eq.refl true | exact Eq.refl false)) | (refine Side.mk ?_ ?_) | exact True.intro))
        unfold pend at q
        refine decide_eq_true (q.trans ?_)
        simp [h]
    | true =>
      repeat' ((conv => whnf); first
   | (refine Side.mk ?_ ?_; focus (first | omega | kernel_rfl | with_reducible assumption | with_reducible exact rngI (by omega) | with_reducible exact rngB (by omega) | (dsimp only [EL.len]; first | omega | with_reducible exact rngI (by omega) | with_reducible exact rngB (by omega)) | exact rfl | (simp only [EL.len, EL.sz, EL.take, EL.drop, maxL, List.length_append, List.length_nil, List.length_cons, List.length_drop, List.length_take, List.nil_append]; omega) | (simp only [EL.len, EL.sz, EL.take, EL.drop, maxL, List.length_append, List.length_nil, List.length_cons, List.length_drop, List.length_take, List.nil_append] at *; omega) | (refine ⟨?_, ?_⟩ <;> omega) | exact ⟨rfl, trivial⟩ | exact ⟨rfl, rfl, trivial⟩ | exact ⟨⟨rfl, rfl, rfl, rfl⟩, trivial⟩ | (refine ⟨?_, ?_, ?_⟩ <;> first | omega | with_reducible exact rngI (by omega) | with_reducible exact rngB (by omega))))
   | (refine Fork.mk ?_ ?_; (intro K' hF; (conv at hF => whnf); (repeat ((first | (have hs := side_l hF; replace hF := side_r hF) | (replace hF := fork_r hF)); (conv at hF => whnf))); replace hF := end_r hF))
   | (refine End.mk ?_; exact hF)
   | refine End.mk ?_
   | refine brT ?_
   | refine brF ?_
   | (refine brT' ?_ ?_; focus with_reducible assumption)
   | (refine brF' ?_ ?_; focus with_reducible assumption)
   | (refine Br.mk ?_ ?_ <;> (intro hb; have h := hb; (try simp only [decide_eq_true_eq, decide_eq_false_iff_not, Bool.not_eq_true', Bool.not_eq_false', Bool.not_eq_eq_eq_not, Bool.not_true, Bool.not_false, ge_iff_le, gt_iff_lt, Bool.and_eq_true, Bool.and_eq_false_iff, Bool.or_eq_true, Bool.or_eq_false_iff, beq_self_eq_true, not_true_eq_false, and_self, Bool.true_eq_false, Bool.false_eq_true, not_false_eq_true] at h); (try dsimp only [EL.len] at h); (try (exfalso; first | omega | exact Bool.noConfusion (h.symm.trans (by with_reducible assumption : _ = true)) | exact Bool.noConfusion (h.symm.trans (by with_reducible assumption : _ = false))))))
   | (refine fun (y : Int) (h0 : 0 ≤ y) h1 => ?_))
      · obtain ⟨n1, n2, n3⟩ := wst_next gx1 gx2 gx3 gx4 (by omega)
        (refine Exists.intro ⟨(true, k + 1, (tickR ⟨xr, xl, xs, xf⟩).s, L ++ [(tickR ⟨xr, xl, xs, xf⟩).gone]), n1, n2 (by assumption), fun e => by cases e⟩ (Exists.intro [0, 1, 2, 3, 5] (And.intro ?_ ?_)))
        · show (waitsN _).toNat - (k + 1) < (waitsN _).toNat - k
          omega
        · repeat' (first | (refine Side.mk ?_ ?_; focus (first | kernel_rfl | exact rfl | exact ⟨rfl, trivial⟩ | exact ⟨rfl, rfl, trivial⟩)) | exact True.intro)
      · obtain ⟨n1, n2, n3⟩ := wst_next gx1 gx2 gx3 gx4 (by omega)
        (refine Exists.intro ⟨(true, k + 1, (tickR ⟨xr, xl, xs, xf⟩).s, L), n1, n3 (by assumption), fun e => by cases e⟩ (Exists.intro [0, 1, 2, 3, 5] (And.intro ?_ ?_)))
        · show (waitsN _).toNat - (k + 1) < (waitsN _).toNat - k
          omega
        · repeat' (first | (refine Side.mk ?_ ?_; focus (first | kernel_rfl | exact rfl | exact ⟨rfl, trivial⟩ | exact ⟨rfl, rfl, trivial⟩)) | exact True.intro)
      all_goals
        have q := wst_end gx1 gx2 gx3 (by assumption)
        (refine Exists.intro _ (And.intro ?_ hK); repeat' (first | (refine Side.mk ?_ ?_; focus (first | with_reducible exact rfl | exact Eq.refl true | exact Eq.refl false)) | (refine Side.mk ?_ ?_) | exact True.intro))
        unfold pend at q
        refine decide_eq_true (q.trans ?_)
        simp [h]
  · have hw := waits_bad hv
    repeat' ((conv => whnf); first
   | (refine Side.mk ?_ ?_; focus (first | omega | kernel_rfl | with_reducible assumption | with_reducible exact rngI (by omega) | with_reducible exact rngB (by omega) | (dsimp only [EL.len]; first | omega | with_reducible exact rngI (by omega) | with_reducible exact rngB (by omega)) | exact rfl | (simp only [EL.len, EL.sz, EL.take, EL.drop, maxL, List.length_append, List.length_nil, List.length_cons, List.length_drop, List.length_take, List.nil_append]; omega) | (simp only [EL.len, EL.sz, EL.take, EL.drop, maxL, List.length_append, List.length_nil, List.length_cons, List.length_drop, List.length_take, List.nil_append] at *; omega) | (refine ⟨?_, ?_⟩ <;> omega) | exact ⟨rfl, trivial⟩ | exact ⟨rfl, rfl, trivial⟩ | exact ⟨⟨rfl, rfl, rfl, rfl⟩, trivial⟩ | (refine ⟨?_, ?_, ?_⟩ <;> first | omega | with_reducible exact rngI (by omega) | with_reducible exact rngB (by omega))))
   | (refine Fork.mk ?_ ?_; (intro K' hF; (conv at hF => whnf); (repeat ((first | (have hs := side_l hF; replace hF := side_r hF) | (replace hF := fork_r hF)); (conv at hF => whnf))); replace hF := end_r hF))
   | (refine End.mk ?_; exact hF)
   | refine End.mk ?_
   | refine brT ?_
   | refine brF ?_
   | (refine brT' ?_ ?_; focus with_reducible assumption)
   | (refine brF' ?_ ?_; focus with_reducible assumption)
   | (refine Br.mk ?_ ?_ <;> (intro hb; have h := hb; (try simp only [decide_eq_true_eq, decide_eq_false_iff_not, Bool.not_eq_true', Bool.not_eq_false', Bool.not_eq_eq_eq_not, Bool.not_true, Bool.not_false, ge_iff_le, gt_iff_lt, Bool.and_eq_true, Bool.and_eq_false_iff, Bool.or_eq_true, Bool.or_eq_false_iff, beq_self_eq_true, not_true_eq_false, and_self, Bool.true_eq_false, Bool.false_eq_true, not_false_eq_true] at h); (try dsimp only [EL.len] at h); (try (exfalso; first | omega | exact Bool.noConfusion (h.symm.trans (by with_reducible assumption : _ = true)) | exact Bool.noConfusion (h.symm.trans (by with_reducible assumption : _ = false))))))
   | (refine fun (y : Int) (h0 : 0 ≤ y) h1 => ?_))
    all_goals (refine Exists.intro _ (And.intro ?_ hK); repeat' (first | (refine Side.mk ?_ ?_; focus (first | with_reducible exact rfl | exact Eq.refl true | exact Eq.refl false)) | (refine Side.mk ?_ ?_) | exact True.intro))
    all_goals simp

set_option maxRecDepth 100000 in
set_option maxHeartbeats 2000000 in
theorem law_l_FnWaitsAll (v : Value) (w : World) (h : CodeB w v) : Calls Try.prog 9 #[v] w fun e w2 => e = .returned (.bool true) ∧ Below w.heap.size w w2 := by
  refine law_ofN (TR := tr_l_FnWaitsAll) tab_ok mixed_ok env_l_FnWaitsAll_ok Try.func9 rfl (fun a n c hn => ?_) con_l_FnWaitsAll v w h
  repeat' ((conv => whnf); first
   | (refine Side.mk ?_ ?_; focus (first | omega | kernel_rfl | with_reducible assumption | with_reducible exact rngI (by omega) | with_reducible exact rngB (by omega) | (dsimp only [EL.len]; first | omega | with_reducible exact rngI (by omega) | with_reducible exact rngB (by omega)) | exact rfl | (simp only [EL.len, EL.sz, EL.take, EL.drop, maxL, List.length_append, List.length_nil, List.length_cons, List.length_drop, List.length_take, List.nil_append]; omega) | (simp only [EL.len, EL.sz, EL.take, EL.drop, maxL, List.length_append, List.length_nil, List.length_cons, List.length_drop, List.length_take, List.nil_append] at *; omega) | (refine ⟨?_, ?_⟩ <;> omega) | exact ⟨rfl, trivial⟩ | exact ⟨rfl, rfl, trivial⟩ | exact ⟨⟨rfl, rfl, rfl, rfl⟩, trivial⟩ | (refine ⟨?_, ?_, ?_⟩ <;> first | omega | with_reducible exact rngI (by omega) | with_reducible exact rngB (by omega))))
   | (refine Fork.mk ?_ ?_; (intro K' hF; (conv at hF => whnf); (repeat ((first | (have hs := side_l hF; replace hF := side_r hF) | (replace hF := fork_r hF)); (conv at hF => whnf))); replace hF := end_r hF))
   | (refine End.mk ?_; exact hF)
   | refine End.mk ?_
   | refine brT ?_
   | refine brF ?_
   | (refine brT' ?_ ?_; focus with_reducible assumption)
   | (refine brF' ?_ ?_; focus with_reducible assumption)
   | (refine Br.mk ?_ ?_ <;> (intro hb; have h := hb; (try simp only [decide_eq_true_eq, decide_eq_false_iff_not, Bool.not_eq_true', Bool.not_eq_false', Bool.not_eq_eq_eq_not, Bool.not_true, Bool.not_false, ge_iff_le, gt_iff_lt, Bool.and_eq_true, Bool.and_eq_false_iff, Bool.or_eq_true, Bool.or_eq_false_iff, beq_self_eq_true, not_true_eq_false, and_self, Bool.true_eq_false, Bool.false_eq_true, not_false_eq_true] at h); (try dsimp only [EL.len] at h); (try (exfalso; first | omega | exact Bool.noConfusion (h.symm.trans (by with_reducible assumption : _ = true)) | exact Bool.noConfusion (h.symm.trans (by with_reducible assumption : _ = false))))))
   | (refine fun (y : Int) (h0 : 0 ≤ y) h1 => ?_))
  all_goals first | exact rfl | omega

end Go.Proofs.Ytednhgiabpgleaa
