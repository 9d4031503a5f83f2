/-
  Serving, in plain Lean: facts for the laws on serving.
-/
import Derived.Test.YtffngipmjbffkaaGreatDoorM7
namespace Go.Proofs.YtffngipmjbffkaaGreatDoor
open Go.RowKit
open Ab
set_option linter.unusedSimpArgs false
set_option linter.unusedVariables false

theorem servR_ok {d : Drv} (h : drvV d = true) : servR d = ⟨(serveF 40 d).1, (serveF 40 d).2, true⟩ := by simp [servR, h]
theorem servR_no {d : Drv} (h : drvV d = false) : servR d = ⟨drv0, 0, false⟩ := by simp [servR, h]
theorem serve_end {d : Drv} (h : drvV d = true) : drvV (serveF 40 d).1 = true ∧ pirqN (serveF 40 d).1.p = 1 ∧ 0 ≤ (serveF 40 d).2 ∧ (serveF 40 d).2 < 40 ∧
    (serveF 40 d).1.p.en / 4 = d.p.en / 4 ∧ (serveF 40 d).1.p.en % 2 = d.p.en % 2 ∧ (serveF 40 d).1.p.sd.items ++ (serveF 40 d).1.out = d.p.sd.items ++ d.out ∧ (serveF 40 d).1.p.sd.shift = d.p.sd.shift ∧ (∃ l, (serveF 40 d).1.inn = d.inn ++ l) := by
  have hb := smu_bd h
  obtain ⟨a1, a2, a3, a4, a5, a6, a7, a8, a9, a10, a11⟩ := serveF_end 40 d h (by omega)
  exact ⟨a1, a2, a3, by omega, a5, a6, a8, a9, a10⟩
theorem serve_again {d : Drv} (h : drvV d = true) : servR (serveF 40 d).1 = ⟨(serveF 40 d).1, 0, true⟩ := by
  obtain ⟨a1, a2, _⟩ := serve_end h
  rw [servR_ok a1, serveF_stop a2]
theorem serve_many {d : Drv} (h : drvV d = true) (he : d.p.en % 2 = 1) : ((serveF 40 d).1.p.rc.items.length : Int) < (serveF 40 d).1.p.rc.trig := by
  obtain ⟨a1, a2, _, _, _, a6, _⟩ := serve_end h
  cases irq_of (drvV_bd a1).1 with
  | none e h1 h2 => exact h2 (by omega)
  | line e _ _ => omega
  | data _ _ _ e1 _ _ _ => omega
  | empty e _ _ => omega
  | modem e _ => omega
theorem serve_line {d : Drv} (h : drvV d = true) (he : d.p.en / 4 % 2 = 1) : (serveF 40 d).1.p.rc.lost = false ∧ badG (serveF 40 d).1.p.rc.items = false := by
  obtain ⟨a1, a2, _, _, a5, _, _⟩ := serve_end h
  have key : ¬ ((serveF 40 d).1.p.en / 4 % 2 = 1 ∧ ((serveF 40 d).1.p.rc.lost = true ∨ badG (serveF 40 d).1.p.rc.items = true)) := by
    cases irq_of (drvV_bd a1).1 with
    | none e h1 h2 => exact h1
    | line e _ _ => omega
    | data _ _ _ e1 _ _ _ => omega
    | empty e _ _ => omega
    | modem e _ => omega
  rw [a5] at key
  constructor
  · cases hl : (serveF 40 d).1.p.rc.lost with
    | false => rfl
    | true => exact absurd ⟨he, .inl hl⟩ key
  · cases hl : badG (serveF 40 d).1.p.rc.items with
    | false => rfl
    | true => exact absurd ⟨he, .inr hl⟩ key
theorem bad_head {l : List (Int × Int)} (h : badG l = false) (hv : allG l = true) : (l.getD 0 (0, 0)).2 = 0 := by
  cases l with
  | nil => rfl
  | cons g r =>
    simp only [allG, List.all_cons, Bool.and_eq_true, gotB, decide_eq_true_eq] at hv
    simp only [badG, decide_eq_false_iff_not] at h
    show g.2 = 0
    omega
theorem serve_head {d : Drv} (h : drvV d = true) (he : d.p.en / 4 % 2 = 1) : ((serveF 40 d).1.p.rc.items.getD 0 (0, 0)).2 = 0 :=
  bad_head (serve_line h he).2 (rcvV_bd (prtV_bd (drvV_bd (serve_end h).1).1).2.2.2.1).2.2.2.2

/-- All that wait are fine. -/
def fineG (l : List (Int × Int)) : Prop := ∀ g ∈ l, g.2 = 0
theorem fine_bad {l : List (Int × Int)} (h : fineG l) : badG l = false := by
  cases l with
  | nil => rfl
  | cons g r =>
    have := h g (by simp)
    simp [badG, this]
structure InKept (d x : Drv) : Prop where
  fine : fineG x.p.rc.items
  len : x.inn.length + x.p.rc.items.length ≤ 32
  all : x.inn ++ x.p.rc.items.map Prod.fst = d.inn ++ d.p.rc.items.map Prod.fst
  wrong : x.wrong = d.wrong
theorem step_in {d : Drv} (h : drvV d = true) (hn : pirqN d.p ≠ 1) (hf : fineG d.p.rc.items) (hl : d.inn.length + d.p.rc.items.length ≤ 32) : InKept d (sstep d) := by
  have hp := (drvV_bd h).1
  obtain ⟨_, _, _, p4, _⟩ := prtV_bd hp
  unfold sstep
  cases irq_of hp with
  | line e _ hx =>
    rw [if_pos e]
    obtain ⟨_, b2, _, _⟩ := pstat_bits hp
    have hb : ¬ (pstatN d.p / 4 % 2 = 1 ∨ pstatN d.p / 8 % 2 = 1) := fun hh => by
      have := b2.1 hh
      rw [fine_bad hf] at this
      exact Bool.noConfusion this
    unfold slineV
    rw [if_neg hb, if_neg hb]
    exact ⟨hf, hl, rfl, rfl⟩
  | data e6 e2 e0 _ _ hx _ =>
    rw [if_neg e6, if_neg e2, if_neg e0]
    cases hi : d.p.rc.items with
    | nil => exact absurd hi hx
    | cons g l =>
      have e : pdata d.p = ⟨d.p.f, d.p.en, d.p.co, ⟨d.p.rc.room, d.p.rc.trig, l, d.p.rc.lost, 0⟩, d.p.sd, d.p.md⟩ := by
        unfold pdata
        rw [rtake_cons p4 hi]
        rfl
      rw [hi] at hl hf
      simp only [List.length_cons] at hl
      unfold sdataV
      rw [e, rtake_cons p4 hi, if_pos (by omega), if_pos (by omega)]
      exact ⟨fun x hx => hf x (by simp [hx]), by simp; omega, by simp [hi], rfl⟩
  | empty e he hx =>
    rw [if_neg (by omega), if_pos e]
    unfold semptyV
    cases d.out with
    | nil => exact ⟨hf, hl, rfl, rfl⟩
    | cons b r => exact ⟨hf, hl, rfl, rfl⟩
  | modem e hx =>
    rw [if_neg (by omega), if_neg (by omega), if_pos e]
    exact ⟨hf, hl, rfl, rfl⟩
  | none e _ _ => exact absurd e hn
theorem serveF_in (n : Nat) : ∀ d : Drv, drvV d = true → fineG d.p.rc.items → d.inn.length + d.p.rc.items.length ≤ 32 → InKept d (serveF n d).1 := by
  induction n with
  | zero => intro d _ hf hl; exact ⟨hf, hl, rfl, rfl⟩
  | succ n ih =>
    intro d hv hf hl
    unfold serveF
    split
    · exact ⟨hf, hl, rfl, rfl⟩
    · rename_i hn
      have hk := step_in hv hn hf hl
      have hv2 := (step_kept hv hn).v
      have := ih (sstep d) hv2 hk.fine hk.len
      exact ⟨this.fine, this.len, this.all.trans hk.all, this.wrong.trans hk.wrong⟩

end Go.Proofs.YtffngipmjbffkaaGreatDoor
