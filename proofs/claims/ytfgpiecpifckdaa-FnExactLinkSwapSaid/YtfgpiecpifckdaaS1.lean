/-
  Senders of the program and of the reference, by the abstract walk.
-/
import Derived.Test.YtfgpiecpifckdaaG1
import Derived.Test.YtfgpiecpifckdaaM4
import Derived.Test.YtfgpiecpifckdaaFifoC
namespace Go.Proofs.Ytfgpiecpifckdaa
open Go.RowKit
open Ab
set_option linter.unusedSimpArgs false
set_option linter.unusedVariables false

/-- FifoTake, by hand. -/
theorem con_i_FifoTake : Con Try.prog 120 [.inr [.int, .ints]] (fun ⟨⟨r, l, _⟩, _⟩ K => K (takeR r l).d) := by
  rintro ⟨⟨r, l, _⟩, _⟩ K hK w vs hr
  replace hK : K (takeR r l).d := hK
  obtain ⟨v, rfl, hv, hl⟩ : ∃ v, vs = #[.agg #[.int .i64 r, v]] ∧ Ints w v l ∧ l.length ≤ 1099511627776 := by
    cases hvs : vs.toList with
    | nil => rw [hvs] at hr; exact hr.elim
    | cons a rest =>
      rw [hvs] at hr
      obtain ⟨⟨us, rfl, hu⟩, hr⟩ := hr
      cases rest with
      | cons _ _ => exact hr.elim
      | nil =>
        cases hus : us.toList with
        | nil => rw [hus] at hu; exact hu.elim
        | cons b rest =>
          rw [hus] at hu
          cases rest with
          | nil => exact hu.2.elim
          | cons v rest =>
            obtain ⟨h1, ⟨h2, h3⟩, h4⟩ := hu
            cases rest with
            | cons _ _ => exact h4.elim
            | nil =>
              have e1 : us = #[.int .i64 r, v] := Array.toList_inj.1 (by rw [hus]; have : b = .int .i64 r := h1; rw [this])
              exact ⟨v, Array.toList_inj.1 (by rw [hvs, e1]), h2, h3⟩
  have none0 : ∀ (w' : World), Below w.heap.size w w' → takeR r l = ⟨0, [], 0, false⟩ → ∃ d v, Ending.returned (.tuple #[.agg #[.int .i64 0, .slice none 0 0], .int .i64 0, .bool false]) = .returned v ∧ K d ∧ Below w.heap.size w w' ∧ ∃ bs, frV w' w.heap.size d v bs ∧ bs.Nodup := by
    intro w' hb he
    rw [he] at hK
    exact ⟨_, _, rfl, hK, hb, [], ⟨_, rfl, [], [], rfl, ⟨_, rfl, [], [], rfl, ⟨rfl, rfl, rfl⟩, [], [], rfl, ⟨World.ownsRow_nil _ _ _ _, Nat.zero_le _, rfl⟩, rfl⟩, [], [], rfl, ⟨rfl, rfl, rfl⟩, [], [], rfl, ⟨rfl, rfl, rfl⟩, rfl⟩, List.nodup_nil⟩
  cases hok : fifoB r l with
  | false =>
    refine (FifoTake_bad r v l w hv hl hok).mono ?_
    rintro e w' ⟨rfl, hb⟩
    exact none0 w' hb (by simp [takeR, hok])
  | true =>
    cases l with
    | nil =>
      refine (FifoTake_nil r v w hv hok).mono ?_
      rintro e w' ⟨rfl, hb⟩
      exact none0 w' hb (by simp [takeR, hok])
    | cons x l =>
      refine (FifoTake_some r v x l w hv hok).mono ?_
      rintro e w' ⟨a, c, rfl, hb, ho⟩
      have he : takeR r (x :: l) = ⟨r, l, x, true⟩ := by simp [takeR, hok]
      rw [he] at hK
      refine ⟨_, _, rfl, hK, hb, (Value.slice a l.length c).ownBlock.toList, ⟨_, rfl, (Value.slice a l.length c).ownBlock.toList, [], (List.append_nil _).symm, ⟨_, rfl, [], _, rfl, ⟨rfl, rfl, rfl⟩, _, [], (List.append_nil _).symm, ⟨ho, ?_, rfl⟩, rfl⟩, [], [], rfl, ⟨rfl, rfl, rfl⟩, [], [], rfl, ⟨rfl, rfl, rfl⟩, rfl⟩, by cases (Value.slice a l.length c).ownBlock <;> simp⟩
      simp at hl
      show l.length ≤ 1099511627776
      omega
def c_i_FifoTake : CS := csOf [.inr [.int, .ints]] (fun ⟨⟨r, l, _⟩, _⟩ K => K (takeR r l).d)
theorem c_i_FifoTake_ok : CSok Try.prog 120 c_i_FifoTake := cs_ok (by kernel_rfl) con_i_FifoTake

def env_i_Sender_waiting : Env := []
theorem env_i_Sender_waiting_ok : EnvOk Try.prog env_i_Sender_waiting := envAll_ok trivial
def tr_i_Sender_waiting : Nat → Tr := fun n => match n with
  | _ => .nil
def c_i_Sender_waiting : CS := csN tab env_i_Sender_waiting tr_i_Sender_waiting Try.f121
theorem c_i_Sender_waiting_ok : CSok Try.prog 121 c_i_Sender_waiting := csN_ok tab_ok mixed_ok env_i_Sender_waiting_ok Try.func121 (by kernel_rfl)

def env_i_sendCopy : Env := []
theorem env_i_sendCopy_ok : EnvOk Try.prog env_i_sendCopy := envAll_ok trivial
def tr_i_sendCopy : Nat → Tr := fun n => match n with
  | _ => .nil
set_option maxRecDepth 100000 in
set_option maxHeartbeats 2000000 in
theorem con_i_sendCopy : Con Try.prog 119 [.inr [.int, .ints, .int, .int]] (fun ⟨⟨r, l, s, f, _⟩, _⟩ K => K (.a (Snd.d ⟨r, l, s, f⟩))) := by
  refine con_ofN (TR := tr_i_sendCopy) tab_ok mixed_ok env_i_sendCopy_ok Try.func119 rfl ?_
  rintro ⟨⟨(r : Int), (l : List Int), (s : Int), (f : Int), _⟩, _⟩ K hK ⟨⟨_, hl, _⟩, _⟩
  replace hK : K (.a (Snd.d ⟨r, l, s, f⟩)) := hK
  replace hl : l.length ≤ 1099511627776 := hl
  repeat' ((conv => whnf); (first | (refine Side.mk ?_ ?_; focus (first | omega | with_reducible assumption | kernel_rfl | exact rfl | (with_reducible first | omega | exact rngI (by omega) | (and_intros <;> first | trivial | omega | exact rngI (by omega))) | (dsimp only [EL.len]; with_reducible first | omega | exact rngI (by omega) | (and_intros <;> first | trivial | omega | exact rngI (by omega))) | with_reducible exact rngB (by omega) | with_reducible exact rngI ⟨by decide, by decide⟩ | exact ⟨rfl, trivial⟩ | exact ⟨rfl, rfl, trivial⟩ | exact ⟨⟨rfl, rfl, rfl, rfl⟩, trivial⟩ | (show (_ : Int) ≤ _ ∧ (_ : Int) ≤ _; omega) | (show (_ : Int) ≤ _; omega) | (simp only [EL.len, EL.sz, EL.take, EL.drop, maxL, la, ln, lc, ld, lt, ls, lna]; with_reducible first | omega | exact rngI (by omega) | (and_intros <;> first | trivial | omega | exact rngI (by omega))) | (simp only [EL.len, EL.sz, EL.take, EL.drop, maxL, la, ln, lc, ld, lt, ls, lna] at *; with_reducible first | omega | exact rngI (by omega) | (and_intros <;> first | trivial | omega | exact rngI (by omega))))) | (refine End.mk ?_; exact hF) | refine End.mk ?_ | refine brT ?_ | refine brF ?_ | (refine brT' ?_ ?_; focus with_reducible assumption) | (refine brF' ?_ ?_; focus with_reducible assumption) | (refine Br.mk ?_ ?_ <;> (intro hb; have h := hb; (try simp only [decide_eq_true_eq, decide_eq_false_iff_not, Bool.not_eq_true', Bool.not_eq_false', Bool.not_eq_eq_eq_not, Bool.not_true, Bool.not_false, ge_iff_le, gt_iff_lt, Bool.and_eq_true, Bool.and_eq_false_iff, Bool.or_eq_true, Bool.or_eq_false_iff, beq_self_eq_true, not_true_eq_false, and_self, Bool.true_eq_false, Bool.false_eq_true, not_false_eq_true] at h); (try dsimp only [EL.len] at h); (try (exfalso; first | omega | exact bnF h (by with_reducible assumption) | exact bnT h (by with_reducible assumption))))) | (refine fun (y : Int) (h0 : 0 ≤ y) h1 => ?_)))
  (refine Exists.intro _ (And.intro ?_ hK); repeat' (first | (refine Side.mk ?_ ?_; focus (first | with_reducible exact rfl | exact Eq.refl true | exact Eq.refl false)) | (refine Side.mk ?_ ?_) | exact True.intro))
  all_goals rfl
def c_i_sendCopy : CS := csOf [.inr [.int, .ints, .int, .int]] (fun ⟨⟨r, l, s, f, _⟩, _⟩ K => K (.a (Snd.d ⟨r, l, s, f⟩)))
theorem c_i_sendCopy_ok : CSok Try.prog 119 c_i_sendCopy := cs_ok (by kernel_rfl) con_i_sendCopy

def env_i_SendValid : Env := [(121, c_i_Sender_waiting), (142, c_i_FifoValid), (104, c_i_isByte)]
theorem env_i_SendValid_ok : EnvOk Try.prog env_i_SendValid := envAll_ok ⟨c_i_Sender_waiting_ok, c_i_FifoValid_ok, c_i_isByte_ok, trivial⟩
def tr_i_SendValid : Nat → Tr := fun n => match n with
  | _ => .nil
set_option maxRecDepth 100000 in
set_option maxHeartbeats 2000000 in
theorem con_i_SendValid : Con Try.prog 118 [.inr [.int, .ints, .int, .int]] (fun ⟨⟨r, l, s, f, _⟩, _⟩ K => K (.l (.v (.bool (sndV ⟨r, l, s, f⟩))))) := by
  refine con_ofN (TR := tr_i_SendValid) tab_ok mixed_ok env_i_SendValid_ok Try.func118 rfl ?_
  rintro ⟨⟨(r : Int), (l : List Int), (s : Int), (f : Int), _⟩, _⟩ K hK ⟨⟨_, hl, _⟩, _⟩
  replace hK : K (.l (.v (.bool (sndV ⟨r, l, s, f⟩)))) := hK
  replace hl : l.length ≤ 1099511627776 := hl
  repeat' ((conv => whnf); (first | (refine Side.mk ?_ ?_; focus (first | omega | with_reducible assumption | kernel_rfl | exact rfl | (with_reducible first | omega | exact rngI (by omega) | (and_intros <;> first | trivial | omega | exact rngI (by omega))) | (dsimp only [EL.len]; with_reducible first | omega | exact rngI (by omega) | (and_intros <;> first | trivial | omega | exact rngI (by omega))) | with_reducible exact rngB (by omega) | with_reducible exact rngI ⟨by decide, by decide⟩ | exact ⟨rfl, trivial⟩ | exact ⟨rfl, rfl, trivial⟩ | exact ⟨⟨rfl, rfl, rfl, rfl⟩, trivial⟩ | (show (_ : Int) ≤ _ ∧ (_ : Int) ≤ _; omega) | (show (_ : Int) ≤ _; omega) | (simp only [EL.len, EL.sz, EL.take, EL.drop, maxL, la, ln, lc, ld, lt, ls, lna]; with_reducible first | omega | exact rngI (by omega) | (and_intros <;> first | trivial | omega | exact rngI (by omega))) | (simp only [EL.len, EL.sz, EL.take, EL.drop, maxL, la, ln, lc, ld, lt, ls, lna] at *; with_reducible first | omega | exact rngI (by omega) | (and_intros <;> first | trivial | omega | exact rngI (by omega))))) | (refine End.mk ?_; exact hF) | refine End.mk ?_ | refine brT ?_ | refine brF ?_ | (refine brT' ?_ ?_; focus with_reducible assumption) | (refine brF' ?_ ?_; focus with_reducible assumption) | (refine Br.mk ?_ ?_ <;> (intro hb; have h := hb; (try simp only [decide_eq_true_eq, decide_eq_false_iff_not, Bool.not_eq_true', Bool.not_eq_false', Bool.not_eq_eq_eq_not, Bool.not_true, Bool.not_false, ge_iff_le, gt_iff_lt, Bool.and_eq_true, Bool.and_eq_false_iff, Bool.or_eq_true, Bool.or_eq_false_iff, beq_self_eq_true, not_true_eq_false, and_self, Bool.true_eq_false, Bool.false_eq_true, not_false_eq_true] at h); (try dsimp only [EL.len] at h); (try (exfalso; first | omega | exact bnF h (by with_reducible assumption) | exact bnT h (by with_reducible assumption))))) | (refine fun (y : Int) (h0 : 0 ≤ y) h1 => ?_)))
  all_goals
    (refine Exists.intro _ (And.intro ?_ hK); repeat' (first | (refine Side.mk ?_ ?_; focus (first | with_reducible exact rfl | exact Eq.refl true | exact Eq.refl false)) | (refine Side.mk ?_ ?_) | exact True.intro))
    simp [sndV, *]
def c_i_SendValid : CS := csOf [.inr [.int, .ints, .int, .int]] (fun ⟨⟨r, l, s, f, _⟩, _⟩ K => K (.l (.v (.bool (sndV ⟨r, l, s, f⟩)))))
theorem c_i_SendValid_ok : CSok Try.prog 118 c_i_SendValid := cs_ok (by kernel_rfl) con_i_SendValid

def env_i_SendTick : Env := [(118, c_i_SendValid), (119, c_i_sendCopy), (121, c_i_Sender_waiting), (120, c_i_FifoTake)]
theorem env_i_SendTick_ok : EnvOk Try.prog env_i_SendTick := envAll_ok ⟨c_i_SendValid_ok, c_i_sendCopy_ok, c_i_Sender_waiting_ok, c_i_FifoTake_ok, trivial⟩
def tr_i_SendTick : Nat → Tr := fun n => match n with
  | _ => .nil
set_option maxRecDepth 100000 in
set_option maxHeartbeats 2000000 in
theorem con_i_SendTick : Con Try.prog 83 [.inr [.int, .ints, .int, .int]] (fun ⟨⟨r, l, s, f, _⟩, _⟩ K => K (tickR ⟨r, l, s, f⟩).d) := by
  refine con_ofN (TR := tr_i_SendTick) tab_ok mixed_ok env_i_SendTick_ok Try.func83 rfl ?_
  rintro ⟨⟨(r : Int), (l : List Int), (s : Int), (f : Int), _⟩, _⟩ K hK ⟨⟨_, hl, _⟩, _⟩
  replace hK : K (tickR ⟨r, l, s, f⟩).d := hK
  replace hl : l.length ≤ 1099511627776 := hl
  refine Classical.byCases (p := sndV ⟨r, l, s, f⟩ = true) (fun hv => ?_) (fun hv => ?_)
  · have hbd := sndV_bd hv
    dsimp only at hbd
    have hok : fifoB r l = true := by
      have h := hv
      simp only [sndV, Bool.and_eq_true] at h
      exact h.1
    repeat' ((conv => whnf); (first | (refine Side.mk ?_ ?_; focus (first | omega | with_reducible assumption | kernel_rfl | exact rfl | (with_reducible first | omega | exact rngI (by omega) | (and_intros <;> first | trivial | omega | exact rngI (by omega))) | (dsimp only [EL.len]; with_reducible first | omega | exact rngI (by omega) | (and_intros <;> first | trivial | omega | exact rngI (by omega))) | with_reducible exact rngB (by omega) | with_reducible exact rngI ⟨by decide, by decide⟩ | exact ⟨rfl, trivial⟩ | exact ⟨rfl, rfl, trivial⟩ | exact ⟨⟨rfl, rfl, rfl, rfl⟩, trivial⟩ | (show (_ : Int) ≤ _ ∧ (_ : Int) ≤ _; omega) | (show (_ : Int) ≤ _; omega) | (simp only [EL.len, EL.sz, EL.take, EL.drop, maxL, la, ln, lc, ld, lt, ls, lna]; with_reducible first | omega | exact rngI (by omega) | (and_intros <;> first | trivial | omega | exact rngI (by omega))) | (simp only [EL.len, EL.sz, EL.take, EL.drop, maxL, la, ln, lc, ld, lt, ls, lna] at *; with_reducible first | omega | exact rngI (by omega) | (and_intros <;> first | trivial | omega | exact rngI (by omega))))) | (refine End.mk ?_; exact hF) | refine End.mk ?_ | refine brT ?_ | refine brF ?_ | (refine brT' ?_ ?_; focus with_reducible assumption) | (refine brF' ?_ ?_; focus with_reducible assumption) | (refine Br.mk ?_ ?_ <;> (intro hb; have h := hb; (try simp only [decide_eq_true_eq, decide_eq_false_iff_not, Bool.not_eq_true', Bool.not_eq_false', Bool.not_eq_eq_eq_not, Bool.not_true, Bool.not_false, ge_iff_le, gt_iff_lt, Bool.and_eq_true, Bool.and_eq_false_iff, Bool.or_eq_true, Bool.or_eq_false_iff, beq_self_eq_true, not_true_eq_false, and_self, Bool.true_eq_false, Bool.false_eq_true, not_false_eq_true] at h); (try dsimp only [EL.len] at h); (try (exfalso; first | omega | exact bnF h (by with_reducible assumption) | exact bnT h (by with_reducible assumption))))) | (refine fun (y : Int) (h0 : 0 ≤ y) h1 => ?_)))
    all_goals (refine Exists.intro _ (And.intro ?_ hK); repeat' (first | (refine Side.mk ?_ ?_; focus (first | with_reducible exact rfl | exact Eq.refl true | exact Eq.refl false)) | (refine Side.mk ?_ ?_) | exact True.intro))
    all_goals clear hK
    all_goals (by_cases hf : f = 1 <;> first | (exfalso; omega) | skip)
    all_goals (cases l <;> simp_all [tickR, tickV, tick1, takeR, EL.len] <;> first | done | omega)
  · replace hv : sndV ⟨r, l, s, f⟩ = false := by simpa using hv
    repeat' ((conv => whnf); (first | (refine Side.mk ?_ ?_; focus (first | omega | with_reducible assumption | kernel_rfl | exact rfl | (with_reducible first | omega | exact rngI (by omega) | (and_intros <;> first | trivial | omega | exact rngI (by omega))) | (dsimp only [EL.len]; with_reducible first | omega | exact rngI (by omega) | (and_intros <;> first | trivial | omega | exact rngI (by omega))) | with_reducible exact rngB (by omega) | with_reducible exact rngI ⟨by decide, by decide⟩ | exact ⟨rfl, trivial⟩ | exact ⟨rfl, rfl, trivial⟩ | exact ⟨⟨rfl, rfl, rfl, rfl⟩, trivial⟩ | (show (_ : Int) ≤ _ ∧ (_ : Int) ≤ _; omega) | (show (_ : Int) ≤ _; omega) | (simp only [EL.len, EL.sz, EL.take, EL.drop, maxL, la, ln, lc, ld, lt, ls, lna]; with_reducible first | omega | exact rngI (by omega) | (and_intros <;> first | trivial | omega | exact rngI (by omega))) | (simp only [EL.len, EL.sz, EL.take, EL.drop, maxL, la, ln, lc, ld, lt, ls, lna] at *; with_reducible first | omega | exact rngI (by omega) | (and_intros <;> first | trivial | omega | exact rngI (by omega))))) | (refine End.mk ?_; exact hF) | refine End.mk ?_ | refine brT ?_ | refine brF ?_ | (refine brT' ?_ ?_; focus with_reducible assumption) | (refine brF' ?_ ?_; focus with_reducible assumption) | (refine Br.mk ?_ ?_ <;> (intro hb; have h := hb; (try simp only [decide_eq_true_eq, decide_eq_false_iff_not, Bool.not_eq_true', Bool.not_eq_false', Bool.not_eq_eq_eq_not, Bool.not_true, Bool.not_false, ge_iff_le, gt_iff_lt, Bool.and_eq_true, Bool.and_eq_false_iff, Bool.or_eq_true, Bool.or_eq_false_iff, beq_self_eq_true, not_true_eq_false, and_self, Bool.true_eq_false, Bool.false_eq_true, not_false_eq_true] at h); (try dsimp only [EL.len] at h); (try (exfalso; first | omega | exact bnF h (by with_reducible assumption) | exact bnT h (by with_reducible assumption))))) | (refine fun (y : Int) (h0 : 0 ≤ y) h1 => ?_)))
    (refine Exists.intro _ (And.intro ?_ hK); repeat' (first | (refine Side.mk ?_ ?_; focus (first | with_reducible exact rfl | exact Eq.refl true | exact Eq.refl false)) | (refine Side.mk ?_ ?_) | exact True.intro))
    all_goals first | exact rfl | simp [tickR, hv, EL.len]
def c_i_SendTick : CS := csOf [.inr [.int, .ints, .int, .int]] (fun ⟨⟨r, l, s, f, _⟩, _⟩ K => K (tickR ⟨r, l, s, f⟩).d)
theorem c_i_SendTick_ok : CSok Try.prog 83 c_i_SendTick := cs_ok (by kernel_rfl) con_i_SendTick

def env_s_SendValid : Env := [(96, c_s_l4Bytes), (49, c_s_l6In)]
theorem env_s_SendValid_ok : EnvOk Try.prog env_s_SendValid := envAll_ok ⟨c_s_l4Bytes_ok, c_s_l6In_ok, trivial⟩
def tr_s_SendValid : Nat → Tr := fun n => match n with
  | _ => .nil
set_option maxRecDepth 100000 in
set_option maxHeartbeats 2000000 in
theorem con_s_SendValid : Con Try.prog 108 [.inr [.int, .ints, .int, .int]] (fun ⟨⟨r, l, s, f, _⟩, _⟩ K => K (.l (.v (.bool (sndV ⟨r, l, s, f⟩))))) := by
  refine con_ofN (TR := tr_s_SendValid) tab_ok mixed_ok env_s_SendValid_ok Try.func108 rfl ?_
  rintro ⟨⟨(r : Int), (l : List Int), (s : Int), (f : Int), _⟩, _⟩ K hK ⟨⟨_, hl, _⟩, _⟩
  replace hK : K (.l (.v (.bool (sndV ⟨r, l, s, f⟩)))) := hK
  replace hl : l.length ≤ 1099511627776 := hl
  repeat' ((conv => whnf); (first | (refine Side.mk ?_ ?_; focus (first | omega | with_reducible assumption | kernel_rfl | exact rfl | (with_reducible first | omega | exact rngI (by omega) | (and_intros <;> first | trivial | omega | exact rngI (by omega))) | (dsimp only [EL.len]; with_reducible first | omega | exact rngI (by omega) | (and_intros <;> first | trivial | omega | exact rngI (by omega))) | with_reducible exact rngB (by omega) | with_reducible exact rngI ⟨by decide, by decide⟩ | exact ⟨rfl, trivial⟩ | exact ⟨rfl, rfl, trivial⟩ | exact ⟨⟨rfl, rfl, rfl, rfl⟩, trivial⟩ | (show (_ : Int) ≤ _ ∧ (_ : Int) ≤ _; omega) | (show (_ : Int) ≤ _; omega) | (simp only [EL.len, EL.sz, EL.take, EL.drop, maxL, la, ln, lc, ld, lt, ls, lna]; with_reducible first | omega | exact rngI (by omega) | (and_intros <;> first | trivial | omega | exact rngI (by omega))) | (simp only [EL.len, EL.sz, EL.take, EL.drop, maxL, la, ln, lc, ld, lt, ls, lna] at *; with_reducible first | omega | exact rngI (by omega) | (and_intros <;> first | trivial | omega | exact rngI (by omega))))) | (refine End.mk ?_; exact hF) | refine End.mk ?_ | refine brT ?_ | refine brF ?_ | (refine brT' ?_ ?_; focus with_reducible assumption) | (refine brF' ?_ ?_; focus with_reducible assumption) | (refine Br.mk ?_ ?_ <;> (intro hb; have h := hb; (try simp only [decide_eq_true_eq, decide_eq_false_iff_not, Bool.not_eq_true', Bool.not_eq_false', Bool.not_eq_eq_eq_not, Bool.not_true, Bool.not_false, ge_iff_le, gt_iff_lt, Bool.and_eq_true, Bool.and_eq_false_iff, Bool.or_eq_true, Bool.or_eq_false_iff, beq_self_eq_true, not_true_eq_false, and_self, Bool.true_eq_false, Bool.false_eq_true, not_false_eq_true] at h); (try dsimp only [EL.len] at h); (try (exfalso; first | omega | exact bnF h (by with_reducible assumption) | exact bnT h (by with_reducible assumption))))) | (refine fun (y : Int) (h0 : 0 ≤ y) h1 => ?_)))
  all_goals
    (refine Exists.intro _ (And.intro ?_ hK); repeat' (first | (refine Side.mk ?_ ?_; focus (first | with_reducible exact rfl | exact Eq.refl true | exact Eq.refl false)) | (refine Side.mk ?_ ?_) | exact True.intro))
    simp_all [sndV, fifoB, byteB]
    try omega
def c_s_SendValid : CS := csOf [.inr [.int, .ints, .int, .int]] (fun ⟨⟨r, l, s, f, _⟩, _⟩ K => K (.l (.v (.bool (sndV ⟨r, l, s, f⟩)))))
theorem c_s_SendValid_ok : CSok Try.prog 108 c_s_SendValid := cs_ok (by kernel_rfl) con_s_SendValid

end Go.Proofs.Ytfgpiecpifckdaa
