/-
  What serving is made of: reads of a valid port, in plain Lean; the cells of a driver.
-/
import Derived.Test.YtkhggobpanfkfaaM7
namespace Go.Proofs.Ytkhggobpanfkfaa
open Go.RowKit
open Ab
set_option linter.unusedSimpArgs false
set_option linter.unusedVariables false

theorem br_l {t : Bool} {p q : Prop} (h : Br t p q) (e : t = true) : p := by cases h with | mk a b => exact a e
theorem br_r {t : Bool} {p q : Prop} (h : Br t p q) (e : t = false) : q := by cases h with | mk a b => exact b e
def dcells (x : Drv) (a b c d : Nat) : List LV := [.v (.int .i64 x.p.f.bits), .v (.int .i64 x.p.f.par), .v (.int .i64 x.p.f.stop), .v (.int .i64 x.p.en), .v (.int .i64 x.p.co),
  .v (.int .i64 x.p.rc.room), .v (.int .i64 x.p.rc.trig), .s a 0, .v (.bool x.p.rc.lost), .v (.int .i64 x.p.rc.age),
  .v (.int .i64 x.p.sd.room), .s b 0, .v (.int .i64 x.p.sd.shift), .v (.int .i64 x.p.sd.left),
  .v (.bool x.p.md.c), .v (.bool x.p.md.h), .v (.bool x.p.md.cc), .v (.bool x.p.md.hc), .s c 0, .s d 0, .v (.int .i64 x.wrong), .v (.int .i64 x.lost)]
theorem read5 {p : Prt} (h : prtV p = true) : preadR p 5 = ⟨pstatP p, pstatN p, true⟩ := by simp [preadR, h]
theorem read0 {p : Prt} (h : prtV p = true) : preadR p 0 = ⟨pdata p, (rtakeR p.rc).g.1, true⟩ := by simp [preadR, h]
theorem read6 {p : Prt} (h : prtV p = true) : preadR p 6 = ⟨pmodP p, mreadN p.md, true⟩ := by simp [preadR, h]
theorem told_valid {p : Prt} (h : prtV p = true) : prtV (pstatP p) = true := by
  obtain ⟨p1, p2, p3, p4, p5⟩ := prtV_bd h
  exact prtV_yes p1 p2 p3 (rcv_told p4) p5
def slineB (p1 p2 : Prt) (x : Drv) (b2 b48 : Bool) : Drv := ⟨cond b48 p2 p1, x.inn, x.out, cond b48 (cntd x.wrong) x.wrong, cond b2 (cntd x.lost) x.lost⟩
theorem slineB_eq {x : Drv} (h : prtV x.p = true) {b2 b48 : Bool} (h2 : decide ((preadR x.p 5).n / 2 % 2 = 1) = b2) (h48 : decide ((preadR x.p 5).n / 4 % 2 = 1 ∨ (preadR x.p 5).n / 8 % 2 = 1) = b48) : slineB (preadR x.p 5).p (preadR (preadR x.p 5).p 0).p x b2 b48 = slineV x := by
  rw [read5 h] at h2 h48 ⊢
  dsimp only at h2 h48 ⊢
  rw [read0 (told_valid h)]
  unfold slineB slineV
  subst h2 h48
  by_cases c2 : pstatN x.p / 2 % 2 = 1 <;> by_cases c48 : pstatN x.p / 4 % 2 = 1 ∨ pstatN x.p / 8 % 2 = 1 <;> simp [c2, c48]
def sdataB (q : PReadR) (x : Drv) (b : Bool) : Drv := ⟨q.p, cond b (x.inn ++ [q.n]) x.inn, x.out, x.wrong, cond b x.lost (cntd x.lost)⟩
theorem sdataB_eq {x : Drv} (h : prtV x.p = true) {b : Bool} (hb : decide (x.inn.length < 32) = b) : sdataB (preadR x.p 0) x b = sdataV x := by
  rw [read0 h]
  unfold sdataB sdataV
  subst hb
  by_cases c : x.inn.length < 32 <;> simp [c]

structure Srv where
  x : Drv
  n : Nat
def Srv.ok (s : Srv) (d : Drv) : Prop := drvV s.x = true ∧ smu s.x + s.n ≤ 19 ∧ serveF 40 d = ((serveF (40 - s.n) s.x).1, (serveF (40 - s.n) s.x).2 + s.n)
theorem ok_start {d : Drv} (h : drvV d = true) : Srv.ok ⟨d, 0⟩ d := ⟨h, by have := smu_bd h; simp; omega, by simp⟩
theorem ok_step {x y d : Drv} {n : Nat} (h : Srv.ok ⟨x, n⟩ d) (hn : pirqN x.p ≠ 1) (e : y = sstep x) : Srv.ok ⟨y, n + 1⟩ d := by
  subst e
  obtain ⟨h1, h2, h3⟩ := h
  have hk := step_kept h1 hn
  have hm := hk.mu
  dsimp only at h1 h2 h3 hm
  refine ⟨hk.v, by dsimp only; omega, ?_⟩
  dsimp only
  rw [h3, show 40 - n = (40 - (n + 1)) + 1 by omega, serveF_step hn]
  dsimp only
  rw [show ((n + 1 : Nat) : Int) = 1 + (n : Int) by omega, Int.add_assoc]
theorem ok_stop {x d : Drv} {n : Nat} (h : Srv.ok ⟨x, n⟩ d) (hn : pirqN x.p = 1) : serveF 40 d = (x, (n : Int)) := by
  obtain ⟨h1, h2, h3⟩ := h
  dsimp only at h3
  rw [h3, serveF_stop hn]
  simp
theorem sstep_line {x : Drv} (h : pirqN x.p = 6) : sstep x = slineV x := by rw [sstep, if_pos h]
theorem sstep_empty {x : Drv} (h : pirqN x.p = 2) : sstep x = semptyV x := by rw [sstep, if_neg (by omega), if_pos h]
theorem sstep_modem {x : Drv} (h : pirqN x.p = 0) : sstep x = smodemV x := by rw [sstep, if_neg (by omega), if_neg (by omega), if_pos h]
theorem sstep_data {x : Drv} (h6 : pirqN x.p ≠ 6) (h2 : pirqN x.p ≠ 2) (h0 : pirqN x.p ≠ 0) : sstep x = sdataV x := by rw [sstep, if_neg h6, if_neg h2, if_neg h0]
def smodemB (q : PReadR) (x : Drv) : Drv := ⟨q.p, x.inn, x.out, x.wrong, x.lost⟩
theorem smodemB_eq {x : Drv} (h : prtV x.p = true) : smodemB (preadR x.p 6) x = smodemV x := by
  rw [read6 h]
  rfl
theorem ok_modem {x d : Drv} {n : Nat} (hs : Srv.ok ⟨x, n⟩ d) (e : pirqN x.p = 0) : Srv.ok ⟨smodemB (preadR x.p 6) x, n + 1⟩ d :=
  ok_step hs (by omega) ((smodemB_eq (drvV_bd hs.1).1).trans (sstep_modem e).symm)
theorem ok_line {x d : Drv} {n : Nat} (hs : Srv.ok ⟨x, n⟩ d) (e : pirqN x.p = 6) {b2 b4 b8 : Bool} (h2 : decide ((preadR x.p 5).n / 2 % 2 = 1) = b2) (h4 : decide ((preadR x.p 5).n / 4 % 2 = 1) = b4) (h8 : decide ((preadR x.p 5).n / 8 % 2 = 1) = b8) : Srv.ok ⟨slineB (preadR x.p 5).p (preadR (preadR x.p 5).p 0).p x b2 (b4 || b8), n + 1⟩ d :=
  ok_step hs (by omega) ((slineB_eq (drvV_bd hs.1).1 h2 (by rw [Bool.decide_or, h4, h8])).trans (sstep_line e).symm)
theorem ok_data {x d : Drv} {n : Nat} (hs : Srv.ok ⟨x, n⟩ d) (h6 : pirqN x.p ≠ 6) (h2 : pirqN x.p ≠ 2) (h0 : pirqN x.p ≠ 0) (h1 : pirqN x.p ≠ 1) {b : Bool} (hb : decide (x.inn.length < 32) = b) : Srv.ok ⟨sdataB (preadR x.p 0) x b, n + 1⟩ d :=
  ok_step hs h1 ((sdataB_eq (drvV_bd hs.1).1 hb).trans (sstep_data h6 h2 h0).symm)
def semptyB (x : Drv) (en : Int) : Drv := ⟨⟨x.p.f, en, x.p.co, x.p.rc, x.p.sd, x.p.md⟩, x.inn, [], x.wrong, x.lost⟩
theorem ok_empty0 {x d : Drv} {n : Nat} (hs : Srv.ok ⟨x, n⟩ d) (e : pirqN x.p = 2) (ho : x.out = []) {en : Int} (he : en = x.p.en - 2) : Srv.ok ⟨semptyB x en, n + 1⟩ d :=
  ok_step hs (by omega) ((show semptyB x en = semptyV x by rw [semptyV, ho, he]; rfl).trans (sstep_empty e).symm)
def sempty1 (x : Drv) (s : Snd) (o : List Int) : Drv := ⟨⟨x.p.f, x.p.en, x.p.co, x.p.rc, s, x.p.md⟩, x.inn, o, x.wrong, x.lost⟩
theorem ok_empty1 {x d : Drv} {n : Nat} (hs : Srv.ok ⟨x, n⟩ d) (e : pirqN x.p = 2) (ho : x.out ≠ []) {s : Snd} {o : List Int} (he : sputs x.p.sd x.out = (s, o)) : Srv.ok ⟨sempty1 x s o, n + 1⟩ d := by
  refine ok_step hs (by omega) (Eq.trans ?_ (sstep_empty e).symm)
  unfold semptyV
  cases hx : x.out with
  | nil => exact absurd hx ho
  | cons b r =>
    rw [hx] at he
    dsimp only
    rw [he]
    rfl
/-- A sender that is filled, and what waits. -/
def PutI (d : Snd) (l : List Int) (s : Snd × List Int) : Prop := sputs s.1 s.2 = sputs d l ∧ sndV s.1 = true ∧ allB s.2 = true ∧ s.2.length ≤ 32
theorem put_next {d s : Snd} {l q : List Int} {c : Int} (h : PutI d l (s, c :: q)) (hr : (s.items.length : Int) < s.room) : PutI d l (⟨s.room, s.items ++ [c], s.shift, s.left⟩, q) := by
  obtain ⟨h1, h2, h3, h4⟩ := h
  have hb := allB_tail h3
  refine ⟨?_, ?_, hb.2, by simp at h4 ⊢; omega⟩
  · rw [← h1]
    dsimp only
    rw [sputs.eq_2, if_pos hr]
  · obtain ⟨p1, p2, p3⟩ := sndV_bd h2
    have hf : fifoB s.room (s.items ++ [c]) = true := by
      simp only [fifoB, Bool.and_eq_true, decide_eq_true_eq]
      refine ⟨⟨⟨p1.2.2, p1.1⟩, by simp; omega⟩, allB_app.2 ⟨p2, by simp [allB, hb.1]⟩⟩
    simp only [sndV, Bool.and_eq_true] at h2 ⊢
    exact ⟨hf, h2.2⟩
theorem put_start {d : Snd} {b : Int} {r : List Int} (h : sndV d = true) (hi : d.items = []) (hl : allB (b :: r) = true) (hn : (b :: r).length ≤ 32) : PutI d (b :: r) (⟨d.room, d.items ++ [b], d.shift, d.left⟩, r) :=
  put_next ⟨rfl, h, hl, hn⟩ (by have := (sndV_bd h).1; rw [hi]; simp; omega)
theorem put_end {d s : Snd} {l q : List Int} (h : PutI d l (s, q)) (hq : q = [] ∨ ¬ (s.items.length : Int) < s.room) : sputs d l = (s, q) := by
  rw [← h.1]
  cases q with
  | nil => rfl
  | cons c q =>
    dsimp only
    rw [sputs.eq_2, if_neg]
    rcases hq with hq | hq
    · cases hq
    · exact hq

end Go.Proofs.Ytkhggobpanfkfaa
