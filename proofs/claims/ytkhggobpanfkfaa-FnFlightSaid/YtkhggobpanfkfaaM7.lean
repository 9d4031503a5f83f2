/-
  What serving interrupts does to a driver, in plain Lean. No program is walked here.
-/
import Derived.Test.YtkhggobpanfkfaaM6
import Derived.Test.YtkhggobpanfkfaaI4
namespace Go.Proofs.Ytkhggobpanfkfaa
open Go.RowKit
open Ab
set_option linter.unusedSimpArgs false
set_option linter.unusedVariables false

def cntd (n : Int) : Int := minI (n + 1) 999
theorem cntd_bd {n : Int} (h : 0 ≤ n ∧ n ≤ 999) : 0 ≤ cntd n ∧ cntd n ≤ 999 := by
  unfold cntd minI
  split <;> omega
/-- Is the oldest byte that waits a wrong one? -/
def badG (l : List (Int × Int)) : Bool := match l with
  | [] => false
  | g :: _ => decide (g.2 = 1 ∨ g.2 = 2)
def slineV (d : Drv) : Drv := ⟨if pstatN d.p / 4 % 2 = 1 ∨ pstatN d.p / 8 % 2 = 1 then pdata (pstatP d.p) else pstatP d.p, d.inn, d.out, if pstatN d.p / 4 % 2 = 1 ∨ pstatN d.p / 8 % 2 = 1 then cntd d.wrong else d.wrong, if pstatN d.p / 2 % 2 = 1 then cntd d.lost else d.lost⟩
def sdataV (d : Drv) : Drv := ⟨pdata d.p, if d.inn.length < 32 then d.inn ++ [(rtakeR d.p.rc).g.1] else d.inn, d.out, d.wrong, if d.inn.length < 32 then d.lost else cntd d.lost⟩
def sputs : Snd → List Int → Snd × List Int
  | s, [] => (s, [])
  | s, b :: r => if (s.items.length : Int) < s.room then sputs ⟨s.room, s.items ++ [b], s.shift, s.left⟩ r else (s, b :: r)
def semptyV (d : Drv) : Drv := match d.out with
  | [] => ⟨⟨d.p.f, d.p.en - 2, d.p.co, d.p.rc, d.p.sd, d.p.md⟩, d.inn, [], d.wrong, d.lost⟩
  | b :: r => ⟨⟨d.p.f, d.p.en, d.p.co, d.p.rc, (sputs d.p.sd (b :: r)).1, d.p.md⟩, d.inn, (sputs d.p.sd (b :: r)).2, d.wrong, d.lost⟩
def smodemV (d : Drv) : Drv := ⟨pmodP d.p, d.inn, d.out, d.wrong, d.lost⟩
def sstep (d : Drv) : Drv := if pirqN d.p = 6 then slineV d else if pirqN d.p = 2 then semptyV d else if pirqN d.p = 0 then smodemV d else sdataV d
def serveF : Nat → Drv → Drv × Int
  | 0, d => (d, 0)
  | n + 1, d => if pirqN d.p = 1 then (d, 0) else ((serveF n (sstep d)).1, (serveF n (sstep d)).2 + 1)
structure ServR where
  x : Drv
  n : Int
  ok : Bool
def servR (d : Drv) : ServR := if drvV d then ⟨(serveF 40 d).1, (serveF 40 d).2, true⟩ else ⟨drv0, 0, false⟩
def ServR.d (x : ServR) : DV := .t [.inr x.x.d, .inl (.v (.int .i64 x.n)), .inl (.v (.bool x.ok))]

theorem code_bits (l : List (Int × Int)) : (badG l = true ∧ (codeN l = 5 ∨ codeN l = 9)) ∨ (badG l = false ∧ (codeN l = 0 ∨ codeN l = 1)) := by
  cases l with
  | nil => simp [badG, codeN]
  | cons g r =>
    by_cases h1 : g.2 = 1
    · simp [badG, codeN, h1]
    · by_cases h2 : g.2 = 2 <;> simp [badG, codeN, h1, h2]
theorem stat_or {s : Snd} (h : sndV s = true) : (s.items = [] ∧ (statN s = 96 ∨ statN s = 32)) ∨ (s.items ≠ [] ∧ statN s = 0) := by
  obtain ⟨r, l, s, f⟩ := s
  simp only [statN, h, if_true]
  cases l
  · left
    refine ⟨rfl, ?_⟩
    by_cases hs : s = -1 <;> simp [hs]
  · right
    simp
theorem pstat_bits {p : Prt} (h : prtV p = true) : (pstatN p / 2 % 2 = 1 ↔ p.rc.lost = true) ∧ ((pstatN p / 4 % 2 = 1 ∨ pstatN p / 8 % 2 = 1) ↔ badG p.rc.items = true) ∧ (2 ≤ pstatN p % 16 ↔ (p.rc.lost = true ∨ badG p.rc.items = true)) ∧ (pstatN p / 32 % 2 = 1 ↔ p.sd.items = []) := by
  obtain ⟨_, _, _, h1, h2⟩ := prtV_bd h
  have hc := code_bits p.rc.items
  have hs := stat_or h2
  unfold pstatN rstatN
  rw [h1]
  simp only [if_true]
  rcases hc with ⟨hb, hc | hc⟩ | ⟨hb, hc | hc⟩ <;> rcases hs with ⟨hi, hs | hs⟩ | ⟨hi, hs⟩ <;> (cases hl : p.rc.lost <;> simp [hb, hc, hi, hs])
theorem pirq_eq {p : Prt} (h : prtV p = true) : pirqN p = (if p.en / 4 % 2 = 1 ∧ (p.rc.lost = true ∨ badG p.rc.items = true) then 6 else if p.en % 2 = 1 ∧ p.rc.trig ≤ p.rc.items.length then 4 else if p.en % 2 = 1 ∧ (0 < p.rc.items.length ∧ 4 ≤ p.rc.age) then 12 else if p.en / 2 % 2 = 1 ∧ p.sd.items = [] then 2 else if p.en / 8 % 2 = 1 ∧ mchg p.md = true then 0 else 1) := by
  obtain ⟨b1, b2, b3, b4⟩ := pstat_bits h
  obtain ⟨_, he, _, h1, h2⟩ := prtV_bd h
  have hb := pstat_bd h
  have hr : 0 ≤ readyN p.rc ∧ readyN p.rc ≤ 2 := by
    unfold readyN
    repeat' split
    all_goals omega
  unfold pirqN irqN
  rw [h, if_pos rfl, if_pos ⟨hb.1, hb.2, hr.1, hr.2, he.1, he.2⟩]
  simp only [b3, b4]
  have r1 : readyN p.rc = 1 ↔ p.rc.trig ≤ p.rc.items.length := by
    unfold readyN
    rw [h1]
    simp only [if_true]
    split
    · simp [*]
    · split <;> simp [*]
  have r2 : readyN p.rc = 2 ↔ ¬ p.rc.trig ≤ p.rc.items.length ∧ (0 < p.rc.items.length ∧ 4 ≤ p.rc.age) := by
    unfold readyN
    rw [h1]
    simp only [if_true]
    split
    · simp [*]
    · split <;> simp [*]
  simp only [r1, r2]
  by_cases c1 : p.en / 4 % 2 = 1 ∧ (p.rc.lost = true ∨ badG p.rc.items = true)
  · rw [if_pos c1, if_pos c1]
  · rw [if_neg c1, if_neg c1]
    by_cases c2 : p.en % 2 = 1 ∧ p.rc.trig ≤ p.rc.items.length
    · rw [if_pos c2, if_pos c2]
    · rw [if_neg c2, if_neg c2]
      by_cases c3 : p.en % 2 = 1 ∧ (0 < p.rc.items.length ∧ 4 ≤ p.rc.age)
      · rw [if_pos c3, if_pos ⟨c3.1, fun hh => c2 ⟨c3.1, hh⟩, c3.2⟩]
      · rw [if_neg c3, if_neg (fun hh => c3 ⟨hh.1, hh.2.2⟩)]

/-- What an interrupt tells. -/
inductive Irq (p : Prt) : Prop where
  | line (e : pirqN p = 6) (he : p.en / 4 % 2 = 1) (h : p.rc.lost = true ∨ badG p.rc.items = true)
  | data (e6 : pirqN p ≠ 6) (e2 : pirqN p ≠ 2) (e0 : pirqN p ≠ 0) (e1 : pirqN p ≠ 1) (e : pirqN p = 4 ∨ pirqN p = 12) (h : p.rc.items ≠ []) (hx : ¬ (p.en / 4 % 2 = 1 ∧ (p.rc.lost = true ∨ badG p.rc.items = true)))
  | empty (e : pirqN p = 2) (he : p.en / 2 % 2 = 1) (h : p.sd.items = [])
  | modem (e : pirqN p = 0) (h : mchg p.md = true)
  | none (e : pirqN p = 1) (h1 : ¬ (p.en / 4 % 2 = 1 ∧ (p.rc.lost = true ∨ badG p.rc.items = true))) (h2 : p.en % 2 = 1 → (p.rc.items.length : Int) < p.rc.trig)
theorem irq_of {p : Prt} (h : prtV p = true) : Irq p := by
  have e := pirq_eq h
  obtain ⟨_, _, _, h1, _⟩ := prtV_bd h
  have hb := rcvV_bd h1
  by_cases c1 : p.en / 4 % 2 = 1 ∧ (p.rc.lost = true ∨ badG p.rc.items = true)
  · rw [if_pos c1] at e
    exact .line e c1.1 c1.2
  rw [if_neg c1] at e
  by_cases c2 : p.en % 2 = 1 ∧ p.rc.trig ≤ p.rc.items.length
  · rw [if_pos c2] at e
    refine .data (by omega) (by omega) (by omega) (by omega) (by omega) ?_ c1
    intro hn
    rw [hn] at c2
    simp at c2
    omega
  rw [if_neg c2] at e
  by_cases c3 : p.en % 2 = 1 ∧ (0 < p.rc.items.length ∧ 4 ≤ p.rc.age)
  · rw [if_pos c3] at e
    refine .data (by omega) (by omega) (by omega) (by omega) (by omega) ?_ c1
    intro hn
    rw [hn] at c3
    simp at c3
  rw [if_neg c3] at e
  by_cases c4 : p.en / 2 % 2 = 1 ∧ p.sd.items = []
  · rw [if_pos c4] at e
    exact .empty e c4.1 c4.2
  rw [if_neg c4] at e
  by_cases c5 : p.en / 8 % 2 = 1 ∧ mchg p.md = true
  · rw [if_pos c5] at e
    exact .modem e c5.2
  rw [if_neg c5] at e
  exact .none e c1 (fun he => by
    have : ¬ p.rc.trig ≤ p.rc.items.length := fun hh => c2 ⟨he, hh⟩
    omega)

/-- A byte that waits is taken. -/
theorem rtake_cons {r : Rcv} (h : rcvV r = true) {g : Int × Int} {l : List (Int × Int)} (e : r.items = g :: l) : rtakeR r = ⟨⟨r.room, r.trig, l, r.lost, 0⟩, g, true⟩ := by
  simp [rtakeR, h, e]
theorem rcv_tail {r : Rcv} (h : rcvV r = true) {g : Int × Int} {l : List (Int × Int)} (e : r.items = g :: l) : rcvV ⟨r.room, r.trig, l, r.lost, 0⟩ = true ∧ byteB g.1 = true := by
  obtain ⟨h1, h2, h3, h4, h5⟩ := rcvV_bd h
  rw [e] at h3 h5
  simp only [allG, List.all_cons, Bool.and_eq_true, List.length_cons, gotB] at h3 h5
  exact ⟨rcvV_yes h1 h2 (by omega) (by omega) h5.2, h5.1.1⟩
theorem rcv_told {r : Rcv} (h : rcvV r = true) : rcvV ⟨r.room, r.trig, r.items, false, r.age⟩ = true := by
  obtain ⟨h1, h2, h3, h4, h5⟩ := rcvV_bd h
  exact rcvV_yes h1 h2 h3 h4 h5
theorem sputs_keep (l : List Int) : ∀ s : Snd, (sputs s l).1.items ++ (sputs s l).2 = s.items ++ l ∧ (sputs s l).1.room = s.room ∧ (sputs s l).1.shift = s.shift ∧ (sputs s l).1.left = s.left ∧ (sputs s l).2.length ≤ l.length := by
  induction l with
  | nil => intro s; simp [sputs]
  | cons b r ih =>
    intro s
    unfold sputs
    split
    · have := ih ⟨s.room, s.items ++ [b], s.shift, s.left⟩
      simp only [List.append_assoc, List.cons_append, List.nil_append] at this
      refine ⟨this.1, this.2.1, this.2.2.1, this.2.2.2.1, ?_⟩
      have := this.2.2.2.2
      simp
      omega
    · simp
theorem allB_app {a b : List Int} : allB (a ++ b) = true ↔ allB a = true ∧ allB b = true := by
  simp [allB]
theorem sputs_valid (l : List Int) : ∀ s : Snd, sndV s = true → allB l = true → sndV (sputs s l).1 = true ∧ allB (sputs s l).2 = true := by
  induction l with
  | nil => intro s h _; exact ⟨h, rfl⟩
  | cons b r ih =>
    intro s h hl
    unfold sputs
    split
    · rename_i hc
      have hb := allB_tail hl
      refine ih _ ?_ hb.2
      obtain ⟨h1, h2, h3⟩ := sndV_bd h
      have hf : fifoB s.room (s.items ++ [b]) = true := by
        simp only [fifoB, Bool.and_eq_true, decide_eq_true_eq]
        refine ⟨⟨⟨h1.2.2, h1.1⟩, by simp; omega⟩, allB_app.2 ⟨h2, by simp [allB, hb.1]⟩⟩
      simp only [sndV, Bool.and_eq_true] at h ⊢
      exact ⟨hf, h.2⟩
    · exact ⟨h, hl⟩
theorem sputs_first {s : Snd} (h : sndV s = true) (e : s.items = []) (b : Int) (r : List Int) : (sputs s (b :: r)).1.items ≠ [] := by
  obtain ⟨h1, _⟩ := sndV_bd h
  unfold sputs
  rw [if_pos (by rw [e]; simp; omega)]
  have hk := (sputs_keep r ⟨s.room, s.items ++ [b], s.shift, s.left⟩)
  -- what was put stays in front
  have : ∀ (l : List Int) (s : Snd), s.items ≠ [] → (sputs s l).1.items ≠ [] := by
    intro l
    induction l with
    | nil => intro s h; exact h
    | cons b r ih =>
      intro s h
      unfold sputs
      split
      · exact ih _ (by simp)
      · exact h
  exact this r _ (by simp)
def smu (d : Drv) : Nat := d.p.rc.items.length + (if d.p.rc.lost = true then 1 else 0) + (if d.p.en / 2 % 2 = 1 ∧ d.p.sd.items = [] then 1 else 0) + (if mchg d.p.md = true then 1 else 0)
theorem smu_bd {d : Drv} (h : drvV d = true) : smu d ≤ 19 := by
  have := (prt_len (drvV_bd h).1).1
  unfold smu
  repeat' split
  all_goals omega

/-- What a step keeps, and what gets less. -/
structure Kept (d x : Drv) : Prop where
  v : drvV x = true
  mu : smu x < smu d
  en4 : x.p.en / 4 = d.p.en / 4
  en1 : x.p.en % 2 = d.p.en % 2
  trig : x.p.rc.trig = d.p.rc.trig
  way : x.p.sd.items ++ x.out = d.p.sd.items ++ d.out
  shift : x.p.sd.shift = d.p.sd.shift
  inn : ∃ l, x.inn = d.inn ++ l
  f : x.p.f = d.p.f

theorem step_line {d : Drv} (h : drvV d = true) (hx : d.p.rc.lost = true ∨ badG d.p.rc.items = true) : Kept d (slineV d) := by
  obtain ⟨h1, h2, h3, h4, h5⟩ := drvV_bd h
  obtain ⟨p1, p2, p3, p4, p5⟩ := prtV_bd h1
  obtain ⟨b1, b2, _, _⟩ := pstat_bits h1
  have hl : 0 ≤ (if pstatN d.p / 2 % 2 = 1 then cntd d.lost else d.lost) ∧ (if pstatN d.p / 2 % 2 = 1 then cntd d.lost else d.lost) ≤ 999 := by
    split
    · exact cntd_bd h5
    · exact h5
  unfold slineV
  by_cases hb : badG d.p.rc.items = true
  · rw [if_pos (b2.2 hb), if_pos (b2.2 hb)]
    cases hi : d.p.rc.items with
    | nil => rw [hi] at hb; simp [badG] at hb
    | cons g l =>
      have e : pdata (pstatP d.p) = ⟨d.p.f, d.p.en, d.p.co, ⟨d.p.rc.room, d.p.rc.trig, l, false, 0⟩, d.p.sd, d.p.md⟩ := by
        unfold pdata
        rw [show (pstatP d.p).rc = ⟨d.p.rc.room, d.p.rc.trig, d.p.rc.items, false, d.p.rc.age⟩ from rfl, rtake_cons (rcv_told p4) (g := g) (l := l) hi]
        rfl
      rw [e]
      have ht := rcv_tail (rcv_told p4) (g := g) (l := l) hi
      exact ⟨drvV_yes (prtV_yes p1 p2 p3 ht.1 p5) h2 h3 (cntd_bd h4) hl, by simp [smu, hi] <;> omega, rfl, rfl, rfl, rfl, rfl, ⟨[], by simp⟩, rfl⟩
  · rw [if_neg (fun hh => hb (b2.1 hh)), if_neg (fun hh => hb (b2.1 hh))]
    have hlo : d.p.rc.lost = true := by
      rcases hx with hx | hx
      · exact hx
      · exact absurd hx hb
    exact ⟨drvV_yes (prtV_yes p1 p2 p3 (rcv_told p4) p5) h2 h3 h4 hl, by unfold smu; exact Nat.add_lt_add_right (Nat.add_lt_add_right (by simp [pstatP, hlo]) _) _, rfl, rfl, rfl, rfl, rfl, ⟨[], by simp⟩, rfl⟩
theorem step_data {d : Drv} (h : drvV d = true) (hx : d.p.rc.items ≠ []) : Kept d (sdataV d) := by
  obtain ⟨h1, h2, h3, h4, h5⟩ := drvV_bd h
  obtain ⟨p1, p2, p3, p4, p5⟩ := prtV_bd h1
  cases hi : d.p.rc.items with
  | nil => exact absurd hi hx
  | cons g l =>
    have e : pdata d.p = ⟨d.p.f, d.p.en, d.p.co, ⟨d.p.rc.room, d.p.rc.trig, l, d.p.rc.lost, 0⟩, d.p.sd, d.p.md⟩ := by
      unfold pdata
      rw [rtake_cons p4 hi]
      rfl
    have ht := rcv_tail p4 hi
    unfold sdataV
    rw [e, rtake_cons p4 hi]
    by_cases hc : d.inn.length < 32
    · rw [if_pos hc, if_pos hc]
      exact ⟨drvV_yes (prtV_yes p1 p2 p3 ht.1 p5) ⟨by simp; omega, allB_app.2 ⟨h2.2, by simp [allB, ht.2]⟩⟩ h3 h4 h5, by simp [smu, hi] <;> omega, rfl, rfl, rfl, rfl, rfl, ⟨_, rfl⟩, rfl⟩
    · rw [if_neg hc, if_neg hc]
      exact ⟨drvV_yes (prtV_yes p1 p2 p3 ht.1 p5) h2 h3 h4 (cntd_bd h5), by simp [smu, hi] <;> omega, rfl, rfl, rfl, rfl, rfl, ⟨[], by simp⟩, rfl⟩
theorem step_empty {d : Drv} (h : drvV d = true) (he : d.p.en / 2 % 2 = 1) (hx : d.p.sd.items = []) : Kept d (semptyV d) := by
  obtain ⟨h1, h2, h3, h4, h5⟩ := drvV_bd h
  obtain ⟨p1, p2, p3, p4, p5⟩ := prtV_bd h1
  unfold semptyV
  cases ho : d.out with
  | nil =>
    refine ⟨drvV_yes (prtV_yes p1 (by omega) p3 p4 p5) h2 (by simp [allB]) h4 h5, ?_, ?_, ?_, rfl, by simp [ho], rfl, ⟨[], by simp⟩, rfl⟩
    · unfold smu
      dsimp only
      rw [if_pos (show d.p.en / 2 % 2 = 1 ∧ d.p.sd.items = [] from ⟨he, hx⟩), if_neg (show ¬ ((d.p.en - 2) / 2 % 2 = 1 ∧ d.p.sd.items = []) by omega)]
      omega
    · dsimp only
      omega
    · dsimp only
      omega
  | cons b r =>
    rw [ho] at h3
    have hv := sputs_valid (b :: r) d.p.sd p5 h3.2
    have hk := sputs_keep (b :: r) d.p.sd
    have hf := sputs_first p5 hx b r
    refine ⟨drvV_yes (prtV_yes p1 p2 p3 p4 hv.1) h2 ⟨Nat.le_trans hk.2.2.2.2 h3.1, hv.2⟩ h4 h5, ?_, rfl, rfl, rfl, by rw [ho]; exact hk.1, hk.2.2.1, ⟨[], by simp⟩, rfl⟩
    unfold smu
    dsimp only
    rw [if_pos (show d.p.en / 2 % 2 = 1 ∧ d.p.sd.items = [] from ⟨he, hx⟩), if_neg (show ¬ (d.p.en / 2 % 2 = 1 ∧ (sputs d.p.sd (b :: r)).1.items = []) from fun hh => hf hh.2)]
    omega
theorem step_modem {d : Drv} (h : drvV d = true) (hx : mchg d.p.md = true) : Kept d (smodemV d) := by
  obtain ⟨h1, h2, h3, h4, h5⟩ := drvV_bd h
  obtain ⟨p1, p2, p3, p4, p5⟩ := prtV_bd h1
  refine ⟨drvV_yes (prtV_yes p1 p2 p3 p4 p5) h2 h3 h4 h5, ?_, rfl, rfl, rfl, rfl, rfl, ⟨[], by simp [smodemV]⟩, rfl⟩
  unfold smu
  refine Nat.add_lt_add_left ?_ _
  rw [if_pos hx]
  simp [smodemV, pmodP, mreadV, mchg]
theorem step_kept {d : Drv} (h : drvV d = true) (hn : pirqN d.p ≠ 1) : Kept d (sstep d) := by
  unfold sstep
  cases irq_of (drvV_bd h).1 with
  | line e _ hx => rw [if_pos e]; exact step_line h hx
  | data e6 e2 e0 _ _ hx _ => rw [if_neg e6, if_neg e2, if_neg e0]; exact step_data h hx
  | empty e he hx => rw [if_neg (by omega), if_pos e]; exact step_empty h he hx
  | modem e hx => rw [if_neg (by omega), if_neg (by omega), if_pos e]; exact step_modem h hx
  | none e _ _ => exact absurd e hn

/-- More fuel changes nothing. -/
theorem serveF_more (d : Drv) (n : Nat) : ∀ (m : Nat), drvV d = true → smu d < n → smu d < m → serveF n d = serveF m d := by
  induction n generalizing d with
  | zero => intro m _ h; omega
  | succ n ih =>
    intro m hv h1 h2
    cases m with
    | zero => omega
    | succ m =>
      unfold serveF
      split
      · rfl
      · rename_i hn
        have hk := step_kept hv hn
        have := hk.mu
        rw [ih (sstep d) m hk.v (by omega) (by omega)]
theorem serveF_end (n : Nat) : ∀ d : Drv, drvV d = true → smu d < n → drvV (serveF n d).1 = true ∧ pirqN (serveF n d).1.p = 1 ∧ 0 ≤ (serveF n d).2 ∧ (serveF n d).2 ≤ smu d ∧
    (serveF n d).1.p.en / 4 = d.p.en / 4 ∧ (serveF n d).1.p.en % 2 = d.p.en % 2 ∧ (serveF n d).1.p.rc.trig = d.p.rc.trig ∧ (serveF n d).1.p.sd.items ++ (serveF n d).1.out = d.p.sd.items ++ d.out ∧ (serveF n d).1.p.sd.shift = d.p.sd.shift ∧ (∃ l, (serveF n d).1.inn = d.inn ++ l) ∧ (serveF n d).1.p.f = d.p.f := by
  induction n with
  | zero => intro d _ h; omega
  | succ n ih =>
    intro d hv h
    unfold serveF
    split
    · rename_i hn
      exact ⟨hv, hn, Int.le_refl _, by simp, rfl, rfl, rfl, rfl, rfl, ⟨[], by simp⟩, rfl⟩
    · rename_i hn
      have hk := step_kept hv hn
      have hm := hk.mu
      obtain ⟨a1, a2, a3, a4, a5, a6, a7, a8, a9, ⟨l2, a10⟩, a11⟩ := ih (sstep d) hk.v (by omega)
      obtain ⟨l1, hl⟩ := hk.inn
      exact ⟨a1, a2, by dsimp only; omega, by dsimp only; omega, a5.trans hk.en4, a6.trans hk.en1, a7.trans hk.trig, a8.trans hk.way, a9.trans hk.shift, ⟨l1 ++ l2, by rw [a10, hl]; simp⟩, a11.trans hk.f⟩

theorem serve_len (d : Drv) : drvLen (servR d).x := by
  unfold servR
  split
  · rename_i h
    exact drv_len (serveF_end 40 d h (by have := smu_bd h; omega)).1
  · exact drv0_len
/-- What is served in the rest. -/
theorem serveF_step {d : Drv} {n : Nat} (h : pirqN d.p ≠ 1) : serveF (n + 1) d = ((serveF n (sstep d)).1, (serveF n (sstep d)).2 + 1) := by
  rw [serveF, if_neg h]
theorem serveF_stop {d : Drv} {n : Nat} (h : pirqN d.p = 1) : serveF n d = (d, 0) := by
  cases n with
  | zero => rfl
  | succ n => rw [serveF, if_pos h]

end Go.Proofs.Ytkhggobpanfkfaa
