/-
  A byte is put behind the others: queues, senders, ports (the register of bytes); by hand and by the abstract walk.
-/
import Derived.Test.YtkhggobpanfkfaaDoorP4
import Derived.Test.YtkhggobpanfkfaaDoorS2
import Derived.Test.YtkhggobpanfkfaaDoorFifoP
namespace Go.Proofs.YtkhggobpanfkfaaDoor
open Go.RowKit
open Ab
set_option linter.unusedSimpArgs false
set_option linter.unusedVariables false

structure PutR where
  room : Int
  items : List Int
  ok : Bool
def putR (room : Int) (l : List Int) (b : Int) : PutR := if fifoB room l && byteB b && decide ((l.length : Int) < room) then ⟨room, l ++ [b], true⟩ else ⟨0, [], false⟩
def PutR.d (t : PutR) : DV := .t [.inr (fifoD t.room t.items), .inl (.v (.bool t.ok))]
theorem putR_M (room : Int) (l : List Int) (b : Int) : putM room l b = ((putR room l b).room, (putR room l b).items, (putR room l b).ok) := by
  unfold putM putR
  split <;> rfl
theorem putR_len (room : Int) (l : List Int) (b : Int) : (putR room l b).items.length ≤ 16 := by
  unfold putR
  split
  · rename_i h
    simp only [Bool.and_eq_true, decide_eq_true_eq] at h
    have := fifoB_bd h.1.1
    simp
    omega
  · simp
/-- FifoPut, by hand. -/
theorem con_i_FifoPut : Con Tryd.prog 61 [.inr [.int, .ints], .inl .int] (fun ⟨⟨r, l, _⟩, b, _⟩ K => K (putR r l b).d) := by
  rintro ⟨⟨r, l, _⟩, b, _⟩ K hK w vs hr hg
  replace hK : K (putR r l b).d := hK
  obtain ⟨v, rfl, hv, hl⟩ : ∃ v, vs = #[.agg #[.int .i64 r, v], .int .i64 b] ∧ Ints w v l ∧ l.length ≤ 1099511627776 := by
    cases hvs : vs.toList with
    | nil => rw [hvs] at hr; exact hr.elim
    | cons a rest =>
      rw [hvs] at hr
      obtain ⟨⟨us, rfl, hu⟩, hr⟩ := hr
      cases rest with
      | nil => exact hr.elim
      | cons y rest =>
        cases rest with
        | cons _ _ => exact hr.2.elim
        | nil =>
          cases hus : us.toList with
          | nil => rw [hus] at hu; exact hu.elim
          | cons b1 rest =>
            rw [hus] at hu
            cases rest with
            | nil => exact hu.2.elim
            | cons v rest =>
              obtain ⟨h1, ⟨h2, h3⟩, h4⟩ := hu
              cases rest with
              | cons _ _ => exact h4.elim
              | nil =>
                have e1 : us = #[.int .i64 r, v] := Array.toList_inj.1 (by rw [hus]; have : b1 = .int .i64 r := h1; rw [this])
                have e2 : y = .int .i64 b := hr.1
                exact ⟨v, Array.toList_inj.1 (by rw [hvs, e1, e2]), h2, h3⟩
  refine (FifoPut_any r v l b w hv hl).mono ?_
  rintro e w' ⟨r', m, ok, a, c, he, rfl, hb, ho⟩
  rw [putR_M] at he
  simp only [Prod.mk.injEq] at he
  obtain ⟨rfl, rfl, rfl⟩ := he
  have hle := putR_len r l b
  refine ⟨_, _, rfl, hK, hb, (Value.slice a (putR r l b).items.length c).ownBlock.toList, ⟨_, rfl, (Value.slice a (putR r l b).items.length c).ownBlock.toList, [], (List.append_nil _).symm, ⟨_, rfl, [], _, rfl, ⟨rfl, rfl, rfl⟩, _, [], (List.append_nil _).symm, ⟨ho, ?_, rfl⟩, rfl⟩, [], [], rfl, ⟨rfl, rfl, rfl⟩, rfl⟩, by cases (Value.slice a (putR r l b).items.length c).ownBlock <;> simp⟩
  show (putR r l b).items.length ≤ 1099511627776
  omega
def c_i_FifoPut : CS := csOf [.inr [.int, .ints], .inl .int] (fun ⟨⟨r, l, _⟩, b, _⟩ K => K (putR r l b).d)
theorem c_i_FifoPut_ok : CSok Tryd.prog 61 c_i_FifoPut := cs_ok (by kernel_rfl) con_i_FifoPut

structure SPutR where
  s : Snd
  ok : Bool
def sputR (s : Snd) (b : Int) : SPutR := if sndV s && byteB b && decide ((s.items.length : Int) < s.room) then ⟨⟨s.room, s.items ++ [b], s.shift, s.left⟩, true⟩ else ⟨snd0, false⟩
def SPutR.d (t : SPutR) : DV := .t [.inr t.s.d, .inl (.v (.bool t.ok))]

def env_i_SendPut : Env := [(60, c_i_SendValid), (62, c_i_Sender_waiting), (61, c_i_FifoPut)]
theorem env_i_SendPut_ok : EnvOk Tryd.prog env_i_SendPut := envAll_ok ⟨c_i_SendValid_ok, c_i_Sender_waiting_ok, c_i_FifoPut_ok, trivial⟩
def tr_i_SendPut : Nat → Tr := fun n => match n with
  | _ => .nil
set_option maxRecDepth 100000 in
set_option maxHeartbeats 2000000 in
theorem con_i_SendPut : Con Tryd.prog 27 [.inr [.int, .ints, .int, .int], .inl .int] (fun ⟨⟨r, l, s, f, _⟩, b, _⟩ K => K (sputR ⟨r, l, s, f⟩ b).d) := by
  refine con_ofN (TR := tr_i_SendPut) tab_ok mixed_ok env_i_SendPut_ok Tryd.func27 rfl ?_
  rintro ⟨⟨(r : Int), (l : List Int), (s : Int), (f : Int), _⟩, (b : Int), _⟩ K hK ⟨⟨_, hl, _⟩, _⟩
  replace hK : K (sputR ⟨r, l, s, f⟩ b).d := hK
  replace hl : l.length ≤ 1099511627776 := hl
  cases hv : sndV ⟨r, l, s, f⟩ with
  | false =>
    rw [show sputR ⟨r, l, s, f⟩ b = ⟨snd0, false⟩ by simp [sputR, hv]] at hK
    repeat' ((conv => whnf); (first | (refine Side.mk ?_ ?_; focus (first | omega | with_reducible assumption | kernel_rfl | exact rfl | (with_reducible first | omega | exact rngI (by omega) | (and_intros <;> first | trivial | omega | exact rngI (by omega))) | (dsimp only [EL.len]; with_reducible first | omega | exact rngI (by omega) | (and_intros <;> first | trivial | omega | exact rngI (by omega))) | with_reducible exact rngB (by omega) | with_reducible exact rngI ⟨by decide, by decide⟩ | exact ⟨rfl, trivial⟩ | exact ⟨rfl, rfl, trivial⟩ | exact ⟨⟨rfl, rfl, rfl, rfl⟩, trivial⟩ | (show (_ : Int) ≤ _ ∧ (_ : Int) ≤ _; omega) | (show (_ : Int) ≤ _; omega) | (simp only [EL.len, EL.sz, EL.take, EL.drop, maxL, la, ln, lc, ld, lt, ls, lna]; with_reducible first | omega | exact rngI (by omega) | (and_intros <;> first | trivial | omega | exact rngI (by omega))) | (simp only [EL.len, EL.sz, EL.take, EL.drop, maxL, la, ln, lc, ld, lt, ls, lna] at *; with_reducible first | omega | exact rngI (by omega) | (and_intros <;> first | trivial | omega | exact rngI (by omega))))) | (refine End.mk ?_; exact hF) | refine End.mk ?_ | refine brT ?_ | refine brF ?_ | (refine brT' ?_ ?_; focus with_reducible assumption) | (refine brF' ?_ ?_; focus with_reducible assumption) | (refine Br.mk ?_ ?_ <;> (intro hb; have h := hb; (try simp only [decide_eq_true_eq, decide_eq_false_iff_not, Bool.not_eq_true', Bool.not_eq_false', Bool.not_eq_eq_eq_not, Bool.not_true, Bool.not_false, ge_iff_le, gt_iff_lt, Bool.and_eq_true, Bool.and_eq_false_iff, Bool.or_eq_true, Bool.or_eq_false_iff, beq_self_eq_true, not_true_eq_false, and_self, Bool.true_eq_false, Bool.false_eq_true, not_false_eq_true] at h); (try dsimp only [EL.len] at h); (try (exfalso; first | omega | exact bnF h (by with_reducible assumption) | exact bnT h (by with_reducible assumption))))) | (refine fun (y : Int) (h0 : 0 ≤ y) h1 => ?_)))
    (refine Exists.intro _ (And.intro ?_ hK); repeat' (first | (refine Side.mk ?_ ?_; focus (first | with_reducible exact rfl | exact Eq.refl true | exact Eq.refl false)) | (refine Side.mk ?_ ?_) | exact True.intro)); all_goals (first | exact rfl | (simp; done))
  | true =>
    have hf : fifoB r l = true := by
      simp only [sndV, Bool.and_eq_true] at hv
      exact hv.1
    by_cases hc : byteB b = true ∧ (l.length : Int) < r
    · have e : putR r l b = ⟨r, l ++ [b], true⟩ := by simp [putR, hf, hc.1, hc.2]
      rw [show sputR ⟨r, l, s, f⟩ b = ⟨⟨r, l ++ [b], s, f⟩, true⟩ by simp [sputR, hv, hc.1, hc.2]] at hK
      repeat' ((conv => whnf); (first | (refine Side.mk ?_ ?_; focus (first | omega | with_reducible assumption | kernel_rfl | exact rfl | (with_reducible first | omega | exact rngI (by omega) | (and_intros <;> first | trivial | omega | exact rngI (by omega))) | (dsimp only [EL.len]; with_reducible first | omega | exact rngI (by omega) | (and_intros <;> first | trivial | omega | exact rngI (by omega))) | with_reducible exact rngB (by omega) | with_reducible exact rngI ⟨by decide, by decide⟩ | exact ⟨rfl, trivial⟩ | exact ⟨rfl, rfl, trivial⟩ | exact ⟨⟨rfl, rfl, rfl, rfl⟩, trivial⟩ | (show (_ : Int) ≤ _ ∧ (_ : Int) ≤ _; omega) | (show (_ : Int) ≤ _; omega) | (simp only [EL.len, EL.sz, EL.take, EL.drop, maxL, la, ln, lc, ld, lt, ls, lna]; with_reducible first | omega | exact rngI (by omega) | (and_intros <;> first | trivial | omega | exact rngI (by omega))) | (simp only [EL.len, EL.sz, EL.take, EL.drop, maxL, la, ln, lc, ld, lt, ls, lna] at *; with_reducible first | omega | exact rngI (by omega) | (and_intros <;> first | trivial | omega | exact rngI (by omega))))) | (refine End.mk ?_; exact hF) | refine End.mk ?_ | refine brT ?_ | refine brF ?_ | (refine brT' ?_ ?_; focus with_reducible assumption) | (refine brF' ?_ ?_; focus with_reducible assumption) | (refine brT' ?_ ?_; focus (simp only [beq_self_eq_true, eq_self, and_self, Bool.not_true, Bool.not_false, sameP_refl, decide_true, decide_false, Bool.and_true, Bool.true_and, Bool.or_false, Bool.false_or, not_true_eq_false, not_false_eq_true, e]; done)) | (refine brF' ?_ ?_; focus (simp only [beq_self_eq_true, eq_self, and_self, Bool.not_true, Bool.not_false, sameP_refl, decide_true, decide_false, Bool.and_true, Bool.true_and, Bool.or_false, Bool.false_or, not_true_eq_false, not_false_eq_true, e]; done)) | (refine Br.mk ?_ ?_ <;> (intro hb; have h := hb; (try simp only [decide_eq_true_eq, decide_eq_false_iff_not, Bool.not_eq_true', Bool.not_eq_false', Bool.not_eq_eq_eq_not, Bool.not_true, Bool.not_false, ge_iff_le, gt_iff_lt, Bool.and_eq_true, Bool.and_eq_false_iff, Bool.or_eq_true, Bool.or_eq_false_iff, beq_self_eq_true, not_true_eq_false, and_self, Bool.true_eq_false, Bool.false_eq_true, not_false_eq_true] at h); (try dsimp only [EL.len] at h); (try (exfalso; first | omega | exact bnF h (by with_reducible assumption) | exact bnT h (by with_reducible assumption))))) | (refine fun (y : Int) (h0 : 0 ≤ y) h1 => ?_)))
      all_goals (refine Exists.intro _ (And.intro ?_ hK); repeat' (first | (refine Side.mk ?_ ?_; focus (first | with_reducible exact rfl | exact Eq.refl true | exact Eq.refl false)) | (refine Side.mk ?_ ?_) | exact True.intro))
      all_goals first | exact rfl | (simp [e]; done)
    · have e : putR r l b = ⟨0, [], false⟩ := by
        unfold putR
        rw [if_neg]
        intro h
        simp only [Bool.and_eq_true, decide_eq_true_eq] at h
        exact hc ⟨h.1.2, h.2⟩
      rw [show sputR ⟨r, l, s, f⟩ b = ⟨snd0, false⟩ by
        unfold sputR
        rw [if_neg]
        intro h
        simp only [Bool.and_eq_true, decide_eq_true_eq] at h
        exact hc ⟨h.1.2, h.2⟩] at hK
      repeat' ((conv => whnf); (first | (refine Side.mk ?_ ?_; focus (first | omega | with_reducible assumption | kernel_rfl | exact rfl | (with_reducible first | omega | exact rngI (by omega) | (and_intros <;> first | trivial | omega | exact rngI (by omega))) | (dsimp only [EL.len]; with_reducible first | omega | exact rngI (by omega) | (and_intros <;> first | trivial | omega | exact rngI (by omega))) | with_reducible exact rngB (by omega) | with_reducible exact rngI ⟨by decide, by decide⟩ | exact ⟨rfl, trivial⟩ | exact ⟨rfl, rfl, trivial⟩ | exact ⟨⟨rfl, rfl, rfl, rfl⟩, trivial⟩ | (show (_ : Int) ≤ _ ∧ (_ : Int) ≤ _; omega) | (show (_ : Int) ≤ _; omega) | (simp only [EL.len, EL.sz, EL.take, EL.drop, maxL, la, ln, lc, ld, lt, ls, lna]; with_reducible first | omega | exact rngI (by omega) | (and_intros <;> first | trivial | omega | exact rngI (by omega))) | (simp only [EL.len, EL.sz, EL.take, EL.drop, maxL, la, ln, lc, ld, lt, ls, lna] at *; with_reducible first | omega | exact rngI (by omega) | (and_intros <;> first | trivial | omega | exact rngI (by omega))))) | (refine End.mk ?_; exact hF) | refine End.mk ?_ | refine brT ?_ | refine brF ?_ | (refine brT' ?_ ?_; focus with_reducible assumption) | (refine brF' ?_ ?_; focus with_reducible assumption) | (refine brT' ?_ ?_; focus (simp only [beq_self_eq_true, eq_self, and_self, Bool.not_true, Bool.not_false, sameP_refl, decide_true, decide_false, Bool.and_true, Bool.true_and, Bool.or_false, Bool.false_or, not_true_eq_false, not_false_eq_true, e]; done)) | (refine brF' ?_ ?_; focus (simp only [beq_self_eq_true, eq_self, and_self, Bool.not_true, Bool.not_false, sameP_refl, decide_true, decide_false, Bool.and_true, Bool.true_and, Bool.or_false, Bool.false_or, not_true_eq_false, not_false_eq_true, e]; done)) | (refine Br.mk ?_ ?_ <;> (intro hb; have h := hb; (try simp only [decide_eq_true_eq, decide_eq_false_iff_not, Bool.not_eq_true', Bool.not_eq_false', Bool.not_eq_eq_eq_not, Bool.not_true, Bool.not_false, ge_iff_le, gt_iff_lt, Bool.and_eq_true, Bool.and_eq_false_iff, Bool.or_eq_true, Bool.or_eq_false_iff, beq_self_eq_true, not_true_eq_false, and_self, Bool.true_eq_false, Bool.false_eq_true, not_false_eq_true] at h); (try dsimp only [EL.len] at h); (try (exfalso; first | omega | exact bnF h (by with_reducible assumption) | exact bnT h (by with_reducible assumption))))) | (refine fun (y : Int) (h0 : 0 ≤ y) h1 => ?_)))
      all_goals (refine Exists.intro _ (And.intro ?_ hK); repeat' (first | (refine Side.mk ?_ ?_; focus (first | with_reducible exact rfl | exact Eq.refl true | exact Eq.refl false)) | (refine Side.mk ?_ ?_) | exact True.intro))
      all_goals first | exact rfl | (simp [e]; done)
def c_i_SendPut : CS := csOf [.inr [.int, .ints, .int, .int], .inl .int] (fun ⟨⟨r, l, s, f, _⟩, b, _⟩ K => K (sputR ⟨r, l, s, f⟩ b).d)
theorem c_i_SendPut_ok : CSok Tryd.prog 27 c_i_SendPut := cs_ok (by kernel_rfl) con_i_SendPut

def env_s_SendPut : Env := [(53, c_s_SendValid), (51, c_s_l6In)]
theorem env_s_SendPut_ok : EnvOk Tryd.prog env_s_SendPut := envAll_ok ⟨c_s_SendValid_ok, c_s_l6In_ok, trivial⟩
def tr_s_SendPut : Nat → Tr := fun n => match n with
  | 3 => .op 0 0 (.op 1 0 (.op 3 0 (.op 4 0 (.op 6 0 (.op 9 0 (.op 10 0 (.op 11 0 (.op 12 0 (.fork 2 1 (.fork 5 1 (.op 7 1 (.op 8 1 (.op 13 1 (.op 14 2 (.op 15 2 (.nil)))))) 7 1 (.op 5 1 (.op 8 1 (.op 13 1 (.op 14 2 (.op 15 2 (.nil))))))) 7 1 (.op 2 1 (.op 5 1 (.op 8 1 (.op 13 1 (.op 14 2 (.op 15 2 (.nil))))))))))))))))
  | _ => .nil
set_option maxRecDepth 100000 in
set_option maxHeartbeats 2000000 in
theorem con_s_SendPut : Con Tryd.prog 19 [.inr [.int, .ints, .int, .int], .inl .int] (fun ⟨⟨r, l, s, f, _⟩, b, _⟩ K => K (sputR ⟨r, l, s, f⟩ b).d) := by
  refine con_ofN (TR := tr_s_SendPut) tab_ok mixed_ok env_s_SendPut_ok Tryd.func19 rfl ?_
  rintro ⟨⟨(r : Int), (l : List Int), (s : Int), (f : Int), _⟩, (b : Int), _⟩ K hK ⟨⟨_, hl, _⟩, _⟩
  replace hK : K (sputR ⟨r, l, s, f⟩ b).d := hK
  replace hl : l.length ≤ 1099511627776 := hl
  cases hv : sndV ⟨r, l, s, f⟩ with
  | false =>
    rw [show sputR ⟨r, l, s, f⟩ b = ⟨snd0, false⟩ by simp [sputR, hv]] at hK
    repeat' ((conv => whnf); (first | (refine Side.mk ?_ ?_; focus (first | omega | with_reducible assumption | kernel_rfl | exact rfl | (with_reducible first | omega | exact rngI (by omega) | (and_intros <;> first | trivial | omega | exact rngI (by omega))) | (dsimp only [EL.len]; with_reducible first | omega | exact rngI (by omega) | (and_intros <;> first | trivial | omega | exact rngI (by omega))) | with_reducible exact rngB (by omega) | with_reducible exact rngI ⟨by decide, by decide⟩ | exact ⟨rfl, trivial⟩ | exact ⟨rfl, rfl, trivial⟩ | exact ⟨⟨rfl, rfl, rfl, rfl⟩, trivial⟩ | (show (_ : Int) ≤ _ ∧ (_ : Int) ≤ _; omega) | (show (_ : Int) ≤ _; omega) | (simp only [EL.len, EL.sz, EL.take, EL.drop, maxL, la, ln, lc, ld, lt, ls, lna]; with_reducible first | omega | exact rngI (by omega) | (and_intros <;> first | trivial | omega | exact rngI (by omega))) | (simp only [EL.len, EL.sz, EL.take, EL.drop, maxL, la, ln, lc, ld, lt, ls, lna] at *; with_reducible first | omega | exact rngI (by omega) | (and_intros <;> first | trivial | omega | exact rngI (by omega))))) | (refine Fork.mk ?_ ?_; (intro K' hF; (conv at hF => whnf); (repeat ((first | (have hs := side_l hF; replace hF := side_r hF) | (replace hF := fork_r hF) | ((repeat ((conv => whnf); (first | (refine Side.mk ?_ ?_; focus (first | omega | with_reducible assumption | kernel_rfl | exact rfl | (with_reducible first | omega | exact rngI (by omega) | (and_intros <;> first | trivial | omega | exact rngI (by omega))) | (dsimp only [EL.len]; with_reducible first | omega | exact rngI (by omega) | (and_intros <;> first | trivial | omega | exact rngI (by omega))) | with_reducible exact rngB (by omega) | with_reducible exact rngI ⟨by decide, by decide⟩ | exact ⟨rfl, trivial⟩ | exact ⟨rfl, rfl, trivial⟩ | exact ⟨⟨rfl, rfl, rfl, rfl⟩, trivial⟩ | (show (_ : Int) ≤ _ ∧ (_ : Int) ≤ _; omega) | (show (_ : Int) ≤ _; omega) | (simp only [EL.len, EL.sz, EL.take, EL.drop, maxL, la, ln, lc, ld, lt, ls, lna]; with_reducible first | omega | exact rngI (by omega) | (and_intros <;> first | trivial | omega | exact rngI (by omega))) | (simp only [EL.len, EL.sz, EL.take, EL.drop, maxL, la, ln, lc, ld, lt, ls, lna] at *; with_reducible first | omega | exact rngI (by omega) | (and_intros <;> first | trivial | omega | exact rngI (by omega))))) | (refine Fork.mk ?_ ?_; focus (intro K' hF; (conv at hF => whnf); (repeat ((first | (have hs := side_l hF; replace hF := side_r hF) | (replace hF := fork_r hF) | ((repeat ((conv => whnf); (refine Side.mk ?_ ?_; focus (first | omega | with_reducible assumption | kernel_rfl | exact rfl | (with_reducible first | omega | exact rngI (by omega) | (and_intros <;> first | trivial | omega | exact rngI (by omega))) | (dsimp only [EL.len]; with_reducible first | omega | exact rngI (by omega) | (and_intros <;> first | trivial | omega | exact rngI (by omega))) | with_reducible exact rngB (by omega) | with_reducible exact rngI ⟨by decide, by decide⟩ | exact ⟨rfl, trivial⟩ | exact ⟨rfl, rfl, trivial⟩ | exact ⟨⟨rfl, rfl, rfl, rfl⟩, trivial⟩ | (show (_ : Int) ≤ _ ∧ (_ : Int) ≤ _; omega) | (show (_ : Int) ≤ _; omega) | (simp only [EL.len, EL.sz, EL.take, EL.drop, maxL, la, ln, lc, ld, lt, ls, lna]; with_reducible first | omega | exact rngI (by omega) | (and_intros <;> first | trivial | omega | exact rngI (by omega))) | (simp only [EL.len, EL.sz, EL.take, EL.drop, maxL, la, ln, lc, ld, lt, ls, lna] at *; with_reducible first | omega | exact rngI (by omega) | (and_intros <;> first | trivial | omega | exact rngI (by omega))))))); (conv => whnf); (refine fun (y : Int) (h0 : 0 ≤ y) h1 => ?_); replace hF := hF y h0 h1)); (conv at hF => whnf))); replace hF := end_r hF; (repeat' ((conv => whnf); (first | (refine Side.mk ?_ ?_; focus (first | omega | with_reducible assumption | kernel_rfl | exact rfl | (with_reducible first | omega | exact rngI (by omega) | (and_intros <;> first | trivial | omega | exact rngI (by omega))) | (dsimp only [EL.len]; with_reducible first | omega | exact rngI (by omega) | (and_intros <;> first | trivial | omega | exact rngI (by omega))) | with_reducible exact rngB (by omega) | with_reducible exact rngI ⟨by decide, by decide⟩ | exact ⟨rfl, trivial⟩ | exact ⟨rfl, rfl, trivial⟩ | exact ⟨⟨rfl, rfl, rfl, rfl⟩, trivial⟩ | (show (_ : Int) ≤ _ ∧ (_ : Int) ≤ _; omega) | (show (_ : Int) ≤ _; omega) | (simp only [EL.len, EL.sz, EL.take, EL.drop, maxL, la, ln, lc, ld, lt, ls, lna]; with_reducible first | omega | exact rngI (by omega) | (and_intros <;> first | trivial | omega | exact rngI (by omega))) | (simp only [EL.len, EL.sz, EL.take, EL.drop, maxL, la, ln, lc, ld, lt, ls, lna] at *; with_reducible first | omega | exact rngI (by omega) | (and_intros <;> first | trivial | omega | exact rngI (by omega))))) | (refine End.mk ?_; exact hF) | refine End.mk ?_ | refine brT ?_ | refine brF ?_ | (refine brT' ?_ ?_; focus with_reducible assumption) | (refine brF' ?_ ?_; focus with_reducible assumption) | (refine Br.mk ?_ ?_ <;> (intro hb; have h := hb; (try simp only [decide_eq_true_eq, decide_eq_false_iff_not, Bool.not_eq_true', Bool.not_eq_false', Bool.not_eq_eq_eq_not, Bool.not_true, Bool.not_false, ge_iff_le, gt_iff_lt, Bool.and_eq_true, Bool.and_eq_false_iff, Bool.or_eq_true, Bool.or_eq_false_iff, beq_self_eq_true, not_true_eq_false, and_self, Bool.true_eq_false, Bool.false_eq_true, not_false_eq_true] at h); (try dsimp only [EL.len] at h); (try (exfalso; first | omega | exact bnF h (by with_reducible assumption) | exact bnT h (by with_reducible assumption))))) | (refine fun (y : Int) (h0 : 0 ≤ y) h1 => ?_)))); done))))); (conv => whnf); (refine fun (y : Int) (h0 : 0 ≤ y) h1 => ?_); replace hF := hF y h0 h1)); (conv at hF => whnf))); replace hF := end_r hF)) | (refine End.mk ?_; exact hF) | refine End.mk ?_ | refine brT ?_ | refine brF ?_ | (refine brT' ?_ ?_; focus with_reducible assumption) | (refine brF' ?_ ?_; focus with_reducible assumption) | (refine Br.mk ?_ ?_ <;> (intro hb; have h := hb; (try simp only [decide_eq_true_eq, decide_eq_false_iff_not, Bool.not_eq_true', Bool.not_eq_false', Bool.not_eq_eq_eq_not, Bool.not_true, Bool.not_false, ge_iff_le, gt_iff_lt, Bool.and_eq_true, Bool.and_eq_false_iff, Bool.or_eq_true, Bool.or_eq_false_iff, beq_self_eq_true, not_true_eq_false, and_self, Bool.true_eq_false, Bool.false_eq_true, not_false_eq_true] at h); (try dsimp only [EL.len] at h); (try (exfalso; first | omega | exact bnF h (by with_reducible assumption) | exact bnT h (by with_reducible assumption))))) | (refine fun (y : Int) (h0 : 0 ≤ y) h1 => ?_)))
    (refine Exists.intro _ (And.intro ?_ hK); repeat' (first | (refine Side.mk ?_ ?_; focus (first | with_reducible exact rfl | exact Eq.refl true | exact Eq.refl false)) | (refine Side.mk ?_ ?_) | exact True.intro)); all_goals (first | exact rfl | (simp; done))
  | true =>
    have hb := (sndV_bd hv).1
    dsimp only at hb
    by_cases hc : byteB b = true ∧ (l.length : Int) < r
    · have hbb := byteB_bd hc.1
      rw [show sputR ⟨r, l, s, f⟩ b = ⟨⟨r, l ++ [b], s, f⟩, true⟩ by simp [sputR, hv, hc.1, hc.2]] at hK
      repeat' ((conv => whnf); (first | (refine Side.mk ?_ ?_; focus (first | omega | with_reducible assumption | kernel_rfl | exact rfl | (with_reducible first | omega | exact rngI (by omega) | (and_intros <;> first | trivial | omega | exact rngI (by omega))) | (dsimp only [EL.len]; with_reducible first | omega | exact rngI (by omega) | (and_intros <;> first | trivial | omega | exact rngI (by omega))) | with_reducible exact rngB (by omega) | with_reducible exact rngI ⟨by decide, by decide⟩ | exact ⟨rfl, trivial⟩ | exact ⟨rfl, rfl, trivial⟩ | exact ⟨⟨rfl, rfl, rfl, rfl⟩, trivial⟩ | (show (_ : Int) ≤ _ ∧ (_ : Int) ≤ _; omega) | (show (_ : Int) ≤ _; omega) | (simp only [EL.len, EL.sz, EL.take, EL.drop, maxL, la, ln, lc, ld, lt, ls, lna]; with_reducible first | omega | exact rngI (by omega) | (and_intros <;> first | trivial | omega | exact rngI (by omega))) | (simp only [EL.len, EL.sz, EL.take, EL.drop, maxL, la, ln, lc, ld, lt, ls, lna] at *; with_reducible first | omega | exact rngI (by omega) | (and_intros <;> first | trivial | omega | exact rngI (by omega))))) | (refine Fork.mk ?_ ?_; (intro K' hF; (conv at hF => whnf); (repeat ((first | (have hs := side_l hF; replace hF := side_r hF) | (replace hF := fork_r hF) | ((repeat ((conv => whnf); (first | (refine Side.mk ?_ ?_; focus (first | omega | with_reducible assumption | kernel_rfl | exact rfl | (with_reducible first | omega | exact rngI (by omega) | (and_intros <;> first | trivial | omega | exact rngI (by omega))) | (dsimp only [EL.len]; with_reducible first | omega | exact rngI (by omega) | (and_intros <;> first | trivial | omega | exact rngI (by omega))) | with_reducible exact rngB (by omega) | with_reducible exact rngI ⟨by decide, by decide⟩ | exact ⟨rfl, trivial⟩ | exact ⟨rfl, rfl, trivial⟩ | exact ⟨⟨rfl, rfl, rfl, rfl⟩, trivial⟩ | (show (_ : Int) ≤ _ ∧ (_ : Int) ≤ _; omega) | (show (_ : Int) ≤ _; omega) | (simp only [EL.len, EL.sz, EL.take, EL.drop, maxL, la, ln, lc, ld, lt, ls, lna]; with_reducible first | omega | exact rngI (by omega) | (and_intros <;> first | trivial | omega | exact rngI (by omega))) | (simp only [EL.len, EL.sz, EL.take, EL.drop, maxL, la, ln, lc, ld, lt, ls, lna] at *; with_reducible first | omega | exact rngI (by omega) | (and_intros <;> first | trivial | omega | exact rngI (by omega))))) | (refine Fork.mk ?_ ?_; focus (intro K' hF; (conv at hF => whnf); (repeat ((first | (have hs := side_l hF; replace hF := side_r hF) | (replace hF := fork_r hF) | ((repeat ((conv => whnf); (refine Side.mk ?_ ?_; focus (first | omega | with_reducible assumption | kernel_rfl | exact rfl | (with_reducible first | omega | exact rngI (by omega) | (and_intros <;> first | trivial | omega | exact rngI (by omega))) | (dsimp only [EL.len]; with_reducible first | omega | exact rngI (by omega) | (and_intros <;> first | trivial | omega | exact rngI (by omega))) | with_reducible exact rngB (by omega) | with_reducible exact rngI ⟨by decide, by decide⟩ | exact ⟨rfl, trivial⟩ | exact ⟨rfl, rfl, trivial⟩ | exact ⟨⟨rfl, rfl, rfl, rfl⟩, trivial⟩ | (show (_ : Int) ≤ _ ∧ (_ : Int) ≤ _; omega) | (show (_ : Int) ≤ _; omega) | (simp only [EL.len, EL.sz, EL.take, EL.drop, maxL, la, ln, lc, ld, lt, ls, lna]; with_reducible first | omega | exact rngI (by omega) | (and_intros <;> first | trivial | omega | exact rngI (by omega))) | (simp only [EL.len, EL.sz, EL.take, EL.drop, maxL, la, ln, lc, ld, lt, ls, lna] at *; with_reducible first | omega | exact rngI (by omega) | (and_intros <;> first | trivial | omega | exact rngI (by omega))))))); (conv => whnf); (refine fun (y : Int) (h0 : 0 ≤ y) h1 => ?_); replace hF := hF y h0 h1)); (conv at hF => whnf))); replace hF := end_r hF; (repeat' ((conv => whnf); (first | (refine Side.mk ?_ ?_; focus (first | omega | with_reducible assumption | kernel_rfl | exact rfl | (with_reducible first | omega | exact rngI (by omega) | (and_intros <;> first | trivial | omega | exact rngI (by omega))) | (dsimp only [EL.len]; with_reducible first | omega | exact rngI (by omega) | (and_intros <;> first | trivial | omega | exact rngI (by omega))) | with_reducible exact rngB (by omega) | with_reducible exact rngI ⟨by decide, by decide⟩ | exact ⟨rfl, trivial⟩ | exact ⟨rfl, rfl, trivial⟩ | exact ⟨⟨rfl, rfl, rfl, rfl⟩, trivial⟩ | (show (_ : Int) ≤ _ ∧ (_ : Int) ≤ _; omega) | (show (_ : Int) ≤ _; omega) | (simp only [EL.len, EL.sz, EL.take, EL.drop, maxL, la, ln, lc, ld, lt, ls, lna]; with_reducible first | omega | exact rngI (by omega) | (and_intros <;> first | trivial | omega | exact rngI (by omega))) | (simp only [EL.len, EL.sz, EL.take, EL.drop, maxL, la, ln, lc, ld, lt, ls, lna] at *; with_reducible first | omega | exact rngI (by omega) | (and_intros <;> first | trivial | omega | exact rngI (by omega))))) | (refine End.mk ?_; exact hF) | refine End.mk ?_ | refine brT ?_ | refine brF ?_ | (refine brT' ?_ ?_; focus with_reducible assumption) | (refine brF' ?_ ?_; focus with_reducible assumption) | (refine Br.mk ?_ ?_ <;> (intro hb; have h := hb; (try simp only [decide_eq_true_eq, decide_eq_false_iff_not, Bool.not_eq_true', Bool.not_eq_false', Bool.not_eq_eq_eq_not, Bool.not_true, Bool.not_false, ge_iff_le, gt_iff_lt, Bool.and_eq_true, Bool.and_eq_false_iff, Bool.or_eq_true, Bool.or_eq_false_iff, beq_self_eq_true, not_true_eq_false, and_self, Bool.true_eq_false, Bool.false_eq_true, not_false_eq_true] at h); (try dsimp only [EL.len] at h); (try (exfalso; first | omega | exact bnF h (by with_reducible assumption) | exact bnT h (by with_reducible assumption))))) | (refine fun (y : Int) (h0 : 0 ≤ y) h1 => ?_)))); done))))); (conv => whnf); (refine fun (y : Int) (h0 : 0 ≤ y) h1 => ?_); replace hF := hF y h0 h1)); (conv at hF => whnf))); replace hF := end_r hF)) | (refine End.mk ?_; exact hF) | refine End.mk ?_ | refine brT ?_ | refine brF ?_ | (refine brT' ?_ ?_; focus with_reducible assumption) | (refine brF' ?_ ?_; focus with_reducible assumption) | (refine Br.mk ?_ ?_ <;> (intro hb; have h := hb; (try simp only [decide_eq_true_eq, decide_eq_false_iff_not, Bool.not_eq_true', Bool.not_eq_false', Bool.not_eq_eq_eq_not, Bool.not_true, Bool.not_false, ge_iff_le, gt_iff_lt, Bool.and_eq_true, Bool.and_eq_false_iff, Bool.or_eq_true, Bool.or_eq_false_iff, beq_self_eq_true, not_true_eq_false, and_self, Bool.true_eq_false, Bool.false_eq_true, not_false_eq_true] at h); (try dsimp only [EL.len] at h); (try (exfalso; first | omega | exact bnF h (by with_reducible assumption) | exact bnT h (by with_reducible assumption))))) | (refine fun (y : Int) (h0 : 0 ≤ y) h1 => ?_)))
      all_goals first
        | (exfalso; omega)
        | (exfalso; rcases h with h | h <;> first | exact h hbb.1 | exact h hbb.2)
        | ((refine Exists.intro _ (And.intro ?_ hK); repeat' (first | (refine Side.mk ?_ ?_; focus (first | with_reducible exact rfl | exact Eq.refl true | exact Eq.refl false)) | (refine Side.mk ?_ ?_) | exact True.intro)); all_goals (first | exact rfl | (simp; done)))
    · rw [show sputR ⟨r, l, s, f⟩ b = ⟨snd0, false⟩ by
        unfold sputR
        rw [if_neg]
        intro h
        simp only [Bool.and_eq_true, decide_eq_true_eq] at h
        exact hc ⟨h.1.2, h.2⟩] at hK
      repeat' ((conv => whnf); (first | (refine Side.mk ?_ ?_; focus (first | omega | with_reducible assumption | kernel_rfl | exact rfl | (with_reducible first | omega | exact rngI (by omega) | (and_intros <;> first | trivial | omega | exact rngI (by omega))) | (dsimp only [EL.len]; with_reducible first | omega | exact rngI (by omega) | (and_intros <;> first | trivial | omega | exact rngI (by omega))) | with_reducible exact rngB (by omega) | with_reducible exact rngI ⟨by decide, by decide⟩ | exact ⟨rfl, trivial⟩ | exact ⟨rfl, rfl, trivial⟩ | exact ⟨⟨rfl, rfl, rfl, rfl⟩, trivial⟩ | (show (_ : Int) ≤ _ ∧ (_ : Int) ≤ _; omega) | (show (_ : Int) ≤ _; omega) | (simp only [EL.len, EL.sz, EL.take, EL.drop, maxL, la, ln, lc, ld, lt, ls, lna]; with_reducible first | omega | exact rngI (by omega) | (and_intros <;> first | trivial | omega | exact rngI (by omega))) | (simp only [EL.len, EL.sz, EL.take, EL.drop, maxL, la, ln, lc, ld, lt, ls, lna] at *; with_reducible first | omega | exact rngI (by omega) | (and_intros <;> first | trivial | omega | exact rngI (by omega))))) | (refine Fork.mk ?_ ?_; (intro K' hF; (conv at hF => whnf); (repeat ((first | (have hs := side_l hF; replace hF := side_r hF) | (replace hF := fork_r hF) | ((repeat ((conv => whnf); (first | (refine Side.mk ?_ ?_; focus (first | omega | with_reducible assumption | kernel_rfl | exact rfl | (with_reducible first | omega | exact rngI (by omega) | (and_intros <;> first | trivial | omega | exact rngI (by omega))) | (dsimp only [EL.len]; with_reducible first | omega | exact rngI (by omega) | (and_intros <;> first | trivial | omega | exact rngI (by omega))) | with_reducible exact rngB (by omega) | with_reducible exact rngI ⟨by decide, by decide⟩ | exact ⟨rfl, trivial⟩ | exact ⟨rfl, rfl, trivial⟩ | exact ⟨⟨rfl, rfl, rfl, rfl⟩, trivial⟩ | (show (_ : Int) ≤ _ ∧ (_ : Int) ≤ _; omega) | (show (_ : Int) ≤ _; omega) | (simp only [EL.len, EL.sz, EL.take, EL.drop, maxL, la, ln, lc, ld, lt, ls, lna]; with_reducible first | omega | exact rngI (by omega) | (and_intros <;> first | trivial | omega | exact rngI (by omega))) | (simp only [EL.len, EL.sz, EL.take, EL.drop, maxL, la, ln, lc, ld, lt, ls, lna] at *; with_reducible first | omega | exact rngI (by omega) | (and_intros <;> first | trivial | omega | exact rngI (by omega))))) | (refine Fork.mk ?_ ?_; focus (intro K' hF; (conv at hF => whnf); (repeat ((first | (have hs := side_l hF; replace hF := side_r hF) | (replace hF := fork_r hF) | ((repeat ((conv => whnf); (refine Side.mk ?_ ?_; focus (first | omega | with_reducible assumption | kernel_rfl | exact rfl | (with_reducible first | omega | exact rngI (by omega) | (and_intros <;> first | trivial | omega | exact rngI (by omega))) | (dsimp only [EL.len]; with_reducible first | omega | exact rngI (by omega) | (and_intros <;> first | trivial | omega | exact rngI (by omega))) | with_reducible exact rngB (by omega) | with_reducible exact rngI ⟨by decide, by decide⟩ | exact ⟨rfl, trivial⟩ | exact ⟨rfl, rfl, trivial⟩ | exact ⟨⟨rfl, rfl, rfl, rfl⟩, trivial⟩ | (show (_ : Int) ≤ _ ∧ (_ : Int) ≤ _; omega) | (show (_ : Int) ≤ _; omega) | (simp only [EL.len, EL.sz, EL.take, EL.drop, maxL, la, ln, lc, ld, lt, ls, lna]; with_reducible first | omega | exact rngI (by omega) | (and_intros <;> first | trivial | omega | exact rngI (by omega))) | (simp only [EL.len, EL.sz, EL.take, EL.drop, maxL, la, ln, lc, ld, lt, ls, lna] at *; with_reducible first | omega | exact rngI (by omega) | (and_intros <;> first | trivial | omega | exact rngI (by omega))))))); (conv => whnf); (refine fun (y : Int) (h0 : 0 ≤ y) h1 => ?_); replace hF := hF y h0 h1)); (conv at hF => whnf))); replace hF := end_r hF; (repeat' ((conv => whnf); (first | (refine Side.mk ?_ ?_; focus (first | omega | with_reducible assumption | kernel_rfl | exact rfl | (with_reducible first | omega | exact rngI (by omega) | (and_intros <;> first | trivial | omega | exact rngI (by omega))) | (dsimp only [EL.len]; with_reducible first | omega | exact rngI (by omega) | (and_intros <;> first | trivial | omega | exact rngI (by omega))) | with_reducible exact rngB (by omega) | with_reducible exact rngI ⟨by decide, by decide⟩ | exact ⟨rfl, trivial⟩ | exact ⟨rfl, rfl, trivial⟩ | exact ⟨⟨rfl, rfl, rfl, rfl⟩, trivial⟩ | (show (_ : Int) ≤ _ ∧ (_ : Int) ≤ _; omega) | (show (_ : Int) ≤ _; omega) | (simp only [EL.len, EL.sz, EL.take, EL.drop, maxL, la, ln, lc, ld, lt, ls, lna]; with_reducible first | omega | exact rngI (by omega) | (and_intros <;> first | trivial | omega | exact rngI (by omega))) | (simp only [EL.len, EL.sz, EL.take, EL.drop, maxL, la, ln, lc, ld, lt, ls, lna] at *; with_reducible first | omega | exact rngI (by omega) | (and_intros <;> first | trivial | omega | exact rngI (by omega))))) | (refine End.mk ?_; exact hF) | refine End.mk ?_ | refine brT ?_ | refine brF ?_ | (refine brT' ?_ ?_; focus with_reducible assumption) | (refine brF' ?_ ?_; focus with_reducible assumption) | (refine Br.mk ?_ ?_ <;> (intro hb; have h := hb; (try simp only [decide_eq_true_eq, decide_eq_false_iff_not, Bool.not_eq_true', Bool.not_eq_false', Bool.not_eq_eq_eq_not, Bool.not_true, Bool.not_false, ge_iff_le, gt_iff_lt, Bool.and_eq_true, Bool.and_eq_false_iff, Bool.or_eq_true, Bool.or_eq_false_iff, beq_self_eq_true, not_true_eq_false, and_self, Bool.true_eq_false, Bool.false_eq_true, not_false_eq_true] at h); (try dsimp only [EL.len] at h); (try (exfalso; first | omega | exact bnF h (by with_reducible assumption) | exact bnT h (by with_reducible assumption))))) | (refine fun (y : Int) (h0 : 0 ≤ y) h1 => ?_)))); done))))); (conv => whnf); (refine fun (y : Int) (h0 : 0 ≤ y) h1 => ?_); replace hF := hF y h0 h1)); (conv at hF => whnf))); replace hF := end_r hF)) | (refine End.mk ?_; exact hF) | refine End.mk ?_ | refine brT ?_ | refine brF ?_ | (refine brT' ?_ ?_; focus with_reducible assumption) | (refine brF' ?_ ?_; focus with_reducible assumption) | (refine Br.mk ?_ ?_ <;> (intro hb; have h := hb; (try simp only [decide_eq_true_eq, decide_eq_false_iff_not, Bool.not_eq_true', Bool.not_eq_false', Bool.not_eq_eq_eq_not, Bool.not_true, Bool.not_false, ge_iff_le, gt_iff_lt, Bool.and_eq_true, Bool.and_eq_false_iff, Bool.or_eq_true, Bool.or_eq_false_iff, beq_self_eq_true, not_true_eq_false, and_self, Bool.true_eq_false, Bool.false_eq_true, not_false_eq_true] at h); (try dsimp only [EL.len] at h); (try (exfalso; first | omega | exact bnF h (by with_reducible assumption) | exact bnT h (by with_reducible assumption))))) | (refine fun (y : Int) (h0 : 0 ≤ y) h1 => ?_)))
      all_goals first
        | ((refine Exists.intro _ (And.intro ?_ hK); repeat' (first | (refine Side.mk ?_ ?_; focus (first | with_reducible exact rfl | exact Eq.refl true | exact Eq.refl false)) | (refine Side.mk ?_ ?_) | exact True.intro)); all_goals (first | exact rfl | (simp; done)); done)
        | (exfalso; refine hc ⟨?_, ?_⟩; (focus (have hq : (0 : Int) ≤ b ∧ b ≤ 255 := (by assumption); simp [byteB, hq.1, hq.2]; done)); omega)
def c_s_SendPut : CS := csOf [.inr [.int, .ints, .int, .int], .inl .int] (fun ⟨⟨r, l, s, f, _⟩, b, _⟩ K => K (sputR ⟨r, l, s, f⟩ b).d)
theorem c_s_SendPut_ok : CSok Tryd.prog 19 c_s_SendPut := cs_ok (by kernel_rfl) con_s_SendPut

structure PWrR where
  p : Prt
  ok : Bool
def PWrR.d (x : PWrR) : DV := .t [.inr x.p.d, .inl (.v (.bool x.ok))]
theorem snd_put {s : Snd} (h : sndV s = true) {b : Int} (hb : byteB b = true) (hr : (s.items.length : Int) < s.room) : sndV ⟨s.room, s.items ++ [b], s.shift, s.left⟩ = true := by
  obtain ⟨h1, h2, h3⟩ := sndV_bd h
  have hf : fifoB s.room (s.items ++ [b]) = true := by
    simp only [fifoB, Bool.and_eq_true, decide_eq_true_eq]
    refine ⟨⟨⟨h1.2.2, h1.1⟩, by simp; omega⟩, by simpa [allB, hb] using h2⟩
  simp only [sndV, Bool.and_eq_true] at h ⊢
  exact ⟨hf, h.2⟩
theorem sput_no {s : Snd} {b : Int} (h : ¬ (byteB b = true ∧ (s.items.length : Int) < s.room)) : sputR s b = ⟨snd0, false⟩ := by
  unfold sputR
  rw [if_neg]
  intro hh
  simp only [Bool.and_eq_true, decide_eq_true_eq] at hh
  exact h ⟨hh.1.2, hh.2⟩


end Go.Proofs.YtkhggobpanfkfaaDoor
