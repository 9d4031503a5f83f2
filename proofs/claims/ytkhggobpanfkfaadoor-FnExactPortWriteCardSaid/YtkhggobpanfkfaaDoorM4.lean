/-
  What queues and senders do, in plain Lean. No program here.
-/
import Derived.Test.YtkhggobpanfkfaaDoorAbsT
namespace Go.Proofs.YtkhggobpanfkfaaDoor
open Go.RowKit
open Ab
set_option linter.unusedSimpArgs false
set_option linter.unusedVariables false

theorem side_l {p q : Prop} (h : Side p q) : p := by cases h; assumption
theorem side_r {p q : Prop} (h : Side p q) : q := by cases h; assumption
theorem fork_r {p q : Prop} (h : Fork p q) : q := by cases h; assumption
theorem end_r {p : Prop} (h : Ab.End p) : p := by cases h; assumption

/-- FifoTake. -/
structure TakeR where
  room : Int
  items : List Int
  b : Int
  ok : Bool
def takeR (room : Int) (l : List Int) : TakeR := if fifoB room l then (match l with
  | x :: r => ⟨room, r, x, true⟩
  | [] => ⟨0, [], 0, false⟩) else ⟨0, [], 0, false⟩
def fifoD (room : Int) (l : List Int) : List DL := [.v (.int .i64 room), .s 3 (.ints l)]
def TakeR.d (t : TakeR) : DV := .t [.inr (fifoD t.room t.items), .inl (.v (.int .i64 t.b)), .inl (.v (.bool t.ok))]

structure Snd where
  room : Int
  items : List Int
  shift : Int
  left : Int
def Snd.ofT : HL [.int, .ints, .int, .int] → Snd
  | (r, l, s, f, _) => ⟨r, l, s, f⟩
def Snd.d (s : Snd) : List DL := [.v (.int .i64 s.room), .s 3 (.ints s.items), .v (.int .i64 s.shift), .v (.int .i64 s.left)]
def sndV (s : Snd) : Bool := fifoB s.room s.items && (if s.shift = -1 then decide (s.left = 0) else byteB s.shift && (decide (1 ≤ s.left) && decide (s.left ≤ 3)))
/-- The byte on the line: what has left, what is there, how long. -/
def tick1 (s : Snd) : Int × Int × Int := if s.shift = -1 then (-1, -1, s.left) else if s.left = 1 then (s.shift, -1, 0) else (-1, s.shift, s.left - 1)
def tickV (s : Snd) : Snd × Int := if (tick1 s).2.1 = -1 then (match s.items with
  | x :: r => (⟨s.room, r, x, 3⟩, (tick1 s).1)
  | [] => (⟨s.room, [], -1, (tick1 s).2.2⟩, (tick1 s).1)) else (⟨s.room, s.items, (tick1 s).2.1, (tick1 s).2.2⟩, (tick1 s).1)
structure TickR where
  s : Snd
  gone : Int
  ok : Bool
def tickR (s : Snd) : TickR := if sndV s then ⟨(tickV s).1, (tickV s).2, true⟩ else ⟨⟨0, [], 0, 0⟩, 0, false⟩
def TickR.d (t : TickR) : DV := .t [.inr t.s.d, .inl (.v (.int .i64 t.gone)), .inl (.v (.bool t.ok))]
def waitsN (s : Snd) : Int := if sndV s then s.left + 3 * s.items.length + (if s.shift = -1 ∧ 0 < s.items.length then 1 else 0) else -1
def statN (s : Snd) : Int := if sndV s then (if 0 < s.items.length then 0 else if s.shift = -1 then 96 else 32) else -1

theorem fifoB_bd {room : Int} {l : List Int} (h : fifoB room l = true) : 1 ≤ room ∧ room ≤ 16 ∧ (l.length : Int) ≤ room ∧ allB l = true := by
  simp only [fifoB, Bool.and_eq_true, decide_eq_true_eq] at h
  exact ⟨h.1.1.1, h.1.1.2, h.1.2, h.2⟩
theorem byteB_bd {x : Int} (h : byteB x = true) : 0 ≤ x ∧ x ≤ 255 := by
  simpa [byteB] using h
theorem sndV_bd {s : Snd} (h : sndV s = true) : (s.room ≤ 16 ∧ (s.items.length : Int) ≤ s.room ∧ 1 ≤ s.room) ∧ allB s.items = true ∧ ((s.shift = -1 ∧ s.left = 0) ∨ (0 ≤ s.shift ∧ s.shift ≤ 255 ∧ 1 ≤ s.left ∧ s.left ≤ 3)) := by
  simp only [sndV, Bool.and_eq_true] at h
  obtain ⟨h1, h2⟩ := h
  have := fifoB_bd h1
  refine ⟨by omega, this.2.2.2, ?_⟩
  split at h2
  · left; simp at h2; omega
  · right
    simp only [Bool.and_eq_true, decide_eq_true_eq] at h2
    have := byteB_bd h2.1
    omega

end Go.Proofs.YtkhggobpanfkfaaDoor

/-
  What a tick does to a valid sender, in plain Lean. No program here.
-/
namespace Go.Proofs.YtkhggobpanfkfaaDoor
open Go.RowKit
open Ab
set_option linter.unusedSimpArgs false
set_option linter.unusedVariables false

def pend (s : Snd) : List Int := (if 0 ≤ s.shift then [s.shift] else []) ++ s.items

theorem allB_tail {x : Int} {l : List Int} (h : allB (x :: l) = true) : byteB x = true ∧ allB l = true := by
  simpa [allB] using h
theorem tick_valid {s : Snd} (hv : sndV s = true) : sndV (tickV s).1 = true := by
  obtain ⟨r, l, s, f⟩ := s
  have hbd := sndV_bd hv
  dsimp only at hbd
  obtain ⟨⟨b1, b2, b3⟩, b4, b5⟩ := hbd
  by_cases hs : s = -1 <;> by_cases hf : f = 1 <;> cases l <;> simp_all [tickV, tick1, sndV, fifoB] <;> first | done | (have := allB_tail b4; simp_all [byteB]; omega) | (simp_all [byteB]; omega)
theorem tick_waits {s : Snd} (hv : sndV s = true) (h : 0 < waitsN s) : waitsN (tickV s).1 = waitsN s - 1 := by
  have h2 := tick_valid hv
  simp only [waitsN, hv, h2, if_true] at h ⊢
  obtain ⟨r, l, s, f⟩ := s
  have hbd := sndV_bd hv
  dsimp only at hbd h ⊢
  obtain ⟨⟨b1, b2, b3⟩, b4, b5⟩ := hbd
  clear hv h2
  by_cases hs : s = -1 <;> by_cases hf : f = 1 <;> cases l <;> simp_all [tickV, tick1] <;> first | omega | (have hh := byteB_bd (allB_tail b4).1; split <;> omega)
theorem stat_waits {s : Snd} (hv : sndV s = true) : statN s = 96 ↔ waitsN s = 0 := by
  simp only [waitsN, statN, hv, if_true]
  obtain ⟨r, l, s, f⟩ := s
  have hbd := sndV_bd hv
  dsimp only at hbd ⊢
  obtain ⟨⟨b1, b2, b3⟩, b4, b5⟩ := hbd
  clear hv
  by_cases hs : s = -1 <;> cases l <;> simp_all <;> first | omega
theorem tick_pend {s : Snd} (hv : sndV s = true) : (if 0 ≤ (tickV s).2 then [(tickV s).2] else []) ++ pend (tickV s).1 = pend s := by
  obtain ⟨r, l, s, f⟩ := s
  have hbd := sndV_bd hv
  dsimp only at hbd
  obtain ⟨⟨b1, b2, b3⟩, b4, b5⟩ := hbd
  clear hv
  by_cases hs : s = -1 <;> by_cases hf : f = 1 <;> cases l <;> simp_all [tickV, tick1, pend] <;> first | omega | (have hh := byteB_bd (allB_tail b4).1; simp [hh.1]; done) | (have hh := byteB_bd (allB_tail b4).1; simp_all; omega) | (have hh := byteB_bd (allB_tail b4).1; trace_state; omega)
theorem pend_nil {s : Snd} (hv : sndV s = true) (h : waitsN s = 0) : pend s = [] := by
  simp only [waitsN, hv, if_true] at h
  obtain ⟨r, l, s, f⟩ := s
  have hbd := sndV_bd hv
  dsimp only at hbd h
  obtain ⟨⟨b1, b2, b3⟩, b4, b5⟩ := hbd
  clear hv
  by_cases hs : s = -1 <;> cases l <;> simp_all [pend] <;> omega
theorem waits_nonneg {s : Snd} (hv : sndV s = true) : 0 ≤ waitsN s ∧ waitsN s ≤ 100 := by
  simp only [waitsN, hv, if_true]
  have hbd := sndV_bd hv
  obtain ⟨⟨b1, b2, b3⟩, b4, b5⟩ := hbd
  split <;> omega
theorem waits_bad {s : Snd} (hv : ¬ sndV s = true) : waitsN s = -1 := by simp [waitsN, hv]

end Go.Proofs.YtkhggobpanfkfaaDoor

/-
  What receivers do, in plain Lean. No program here.
-/
namespace Go.Proofs.YtkhggobpanfkfaaDoor
open Go.RowKit
open Ab
set_option linter.unusedSimpArgs false
set_option linter.unusedVariables false

structure Rcv where
  room : Int
  trig : Int
  items : List (Int × Int)
  lost : Bool
  age : Int
def Rcv.d (r : Rcv) : List DL := [.v (.int .i64 r.room), .v (.int .i64 r.trig), .s 78 (.gots r.items), .v (.bool r.lost), .v (.int .i64 r.age)]
def gotD (g : Int × Int) : List DL := [.v (.int .i64 g.1), .v (.int .i64 g.2)]
def gotB (g : Int × Int) : Bool := byteB g.1 && (decide (0 ≤ g.2) && decide (g.2 ≤ 2))
def allG (l : List (Int × Int)) : Bool := l.all gotB
def rcvV (r : Rcv) : Bool := decide (1 ≤ r.room) && decide (r.room ≤ 16) && decide (1 ≤ r.trig) && decide (r.trig ≤ r.room) && decide ((r.items.length : Int) ≤ r.room) && decide (0 ≤ r.age) && decide (r.age ≤ 99) && allG r.items
def rcv0 : Rcv := ⟨0, 0, [], false, 0⟩

structure RTakeR where
  r : Rcv
  g : Int × Int
  ok : Bool
def rtakeR (r : Rcv) : RTakeR := if rcvV r then (match r.items with
  | g :: l => ⟨⟨r.room, r.trig, l, r.lost, 0⟩, g, true⟩
  | [] => ⟨rcv0, (0, 0), false⟩) else ⟨rcv0, (0, 0), false⟩
def RTakeR.d (t : RTakeR) : DV := .t [.inr t.r.d, .inr (gotD t.g), .inl (.v (.bool t.ok))]
structure RPutR where
  r : Rcv
  ok : Bool
def rputV (r : Rcv) (g : Int × Int) : Rcv := if (r.items.length : Int) < r.room then ⟨r.room, r.trig, r.items ++ [g], r.lost, 0⟩ else ⟨r.room, r.trig, r.items, true, 0⟩
def rputR (r : Rcv) (g : Int × Int) : RPutR := if rcvV r && gotB g then ⟨rputV r g, true⟩ else ⟨rcv0, false⟩
def RPutR.d (t : RPutR) : DV := .t [.inr t.r.d, .inl (.v (.bool t.ok))]

theorem allG_take_succ (l : List (Int × Int)) (k : Nat) (hk : k < l.length) : allG (l.take (k + 1)) = (allG (l.take k) && gotB (l.getD k (0, 0))) := by
  unfold allG
  rw [List.take_add_one, List.all_append, List.getElem?_eq_getElem hk]
  simp [List.getD, hk]
theorem allG_false (l : List (Int × Int)) (k : Nat) (hk : k < l.length) (h : gotB (l.getD k (0, 0)) = false) : allG l = false := by
  unfold allG
  rw [List.all_eq_false]
  refine ⟨l[k], List.getElem_mem hk, ?_⟩
  simp only [List.getD, List.getElem?_eq_getElem hk, Option.getD_some] at h
  simp [h]
theorem rcvV_bd {r : Rcv} (h : rcvV r = true) : (1 ≤ r.room ∧ r.room ≤ 16) ∧ (1 ≤ r.trig ∧ r.trig ≤ r.room) ∧ (r.items.length : Int) ≤ r.room ∧ (0 ≤ r.age ∧ r.age ≤ 99) ∧ allG r.items = true := by
  simp only [rcvV, Bool.and_eq_true, decide_eq_true_eq] at h
  exact ⟨⟨h.1.1.1.1.1.1.1, h.1.1.1.1.1.1.2⟩, ⟨h.1.1.1.1.1.2, h.1.1.1.1.2⟩, h.1.1.1.2, ⟨h.1.1.2, h.1.2⟩, h.2⟩
theorem got_succ_eq {l m : List (Int × Int)} {k : Nat} (hk : k < l.length) (hk' : k < m.length) (h : l.take k = m.take k) (h2 : l.getD k (0, 0) = m.getD k (0, 0)) : l.take (k + 1) = m.take (k + 1) := by
  rw [List.take_add_one, List.take_add_one, h, List.getElem?_eq_getElem hk, List.getElem?_eq_getElem hk']
  simp only [List.getD, List.getElem?_eq_getElem hk, List.getElem?_eq_getElem hk', Option.getD_some] at h2
  rw [h2]
theorem rcvV_no {r t : Int} {l : List (Int × Int)} {o : Bool} {a : Int} (h : ¬ ((1 ≤ r ∧ r ≤ 16) ∧ (1 ≤ t ∧ t ≤ r) ∧ (l.length : Int) ≤ r ∧ (0 ≤ a ∧ a ≤ 99) ∧ allG l = true)) : rcvV ⟨r, t, l, o, a⟩ = false := by
  cases hc : rcvV ⟨r, t, l, o, a⟩ with
  | false => rfl
  | true => exact absurd (rcvV_bd hc) h
theorem rcvV_yes {r t : Int} {l : List (Int × Int)} {o : Bool} {a : Int} (h1 : 1 ≤ r ∧ r ≤ 16) (h2 : 1 ≤ t ∧ t ≤ r) (h3 : (l.length : Int) ≤ r) (h4 : 0 ≤ a ∧ a ≤ 99) (h5 : allG l = true) : rcvV ⟨r, t, l, o, a⟩ = true := by
  simp [rcvV, h1.1, h1.2, h2.1, h2.2, h3, h4.1, h4.2, h5]

end Go.Proofs.YtkhggobpanfkfaaDoor

/-
  What formats, lines and ports are, in plain Lean. No program here.
-/
namespace Go.Proofs.YtkhggobpanfkfaaDoor
open Go.RowKit
open Ab
set_option linter.unusedSimpArgs false
set_option linter.unusedVariables false

structure Fmt where
  bits : Int
  par : Int
  stop : Int
  deriving DecidableEq
def Fmt.d (f : Fmt) : List DL := [.v (.int .i64 f.bits), .v (.int .i64 f.par), .v (.int .i64 f.stop)]
def fmtV (f : Fmt) : Bool := decide (5 ≤ f.bits) && decide (f.bits ≤ 8) && decide (0 ≤ f.par) && decide (f.par ≤ 2) && decide (1 ≤ f.stop) && decide (f.stop ≤ 2)
def fbyN (f : Fmt) : Int := if fmtV f then f.bits - 5 + 4 * (f.stop - 1) + (if f.par = 1 then 8 else if f.par = 2 then 24 else 0) else -1
structure Mdm where
  c : Bool
  h : Bool
  cc : Bool
  hc : Bool
  deriving DecidableEq
def Mdm.d (m : Mdm) : List DL := [.v (.bool m.c), .v (.bool m.h), .v (.bool m.cc), .v (.bool m.hc)]
def msetV (m : Mdm) (c h : Bool) : Mdm := ⟨c, h, m.cc || (m.c != c), m.hc || (m.h != h)⟩
def mreadV (m : Mdm) : Mdm := ⟨m.c, m.h, false, false⟩
def mreadN (m : Mdm) : Int := (if m.cc then 1 else 0) + (if m.hc then 2 else 0) + (if m.c then 16 else 0) + (if m.h then 32 else 0)
def mchg (m : Mdm) : Bool := m.cc || m.hc
structure Prt where
  f : Fmt
  en : Int
  co : Int
  rc : Rcv
  sd : Snd
  md : Mdm
def Prt.d (p : Prt) : List DL := [.v (.int .i64 p.f.bits), .v (.int .i64 p.f.par), .v (.int .i64 p.f.stop), .v (.int .i64 p.en), .v (.int .i64 p.co),
  .v (.int .i64 p.rc.room), .v (.int .i64 p.rc.trig), .s 78 (.gots p.rc.items), .v (.bool p.rc.lost), .v (.int .i64 p.rc.age),
  .v (.int .i64 p.sd.room), .s 3 (.ints p.sd.items), .v (.int .i64 p.sd.shift), .v (.int .i64 p.sd.left),
  .v (.bool p.md.c), .v (.bool p.md.h), .v (.bool p.md.cc), .v (.bool p.md.hc)]
def prtV (p : Prt) : Bool := fmtV p.f && (decide (0 ≤ p.en) && decide (p.en ≤ 15)) && (decide (0 ≤ p.co) && decide (p.co ≤ 3)) && rcvV p.rc && sndV p.sd
def fmt0 : Fmt := ⟨0, 0, 0⟩
def snd0 : Snd := ⟨0, [], 0, 0⟩
def mdm0 : Mdm := ⟨false, false, false, false⟩
def prt0 : Prt := ⟨fmt0, 0, 0, rcv0, snd0, mdm0⟩
def rtickV (r : Rcv) : Rcv := ⟨r.room, r.trig, r.items, r.lost, if 0 < r.items.length then minI (r.age + 1) 99 else 0⟩
structure RTickR where
  r : Rcv
  ok : Bool
def rtickR (r : Rcv) : RTickR := if rcvV r then ⟨rtickV r, true⟩ else ⟨rcv0, false⟩
def RTickR.d (t : RTickR) : DV := .t [.inr t.r.d, .inl (.v (.bool t.ok))]
def readyN (r : Rcv) : Int := if rcvV r then (if r.trig ≤ r.items.length then 1 else if 0 < r.items.length ∧ 4 ≤ r.age then 2 else 0) else 0
def codeN (l : List (Int × Int)) : Int := match l with
  | [] => 0
  | g :: _ => 1 + (if g.2 = 1 then 4 else if g.2 = 2 then 8 else 0)
def rstatN (r : Rcv) : Int := if rcvV r then (if r.lost then 2 else 0) + codeN r.items else -1
def irqN (s r : Int) (m : Bool) (e : Int) : Int :=
  if 0 ≤ s ∧ s ≤ 127 ∧ 0 ≤ r ∧ r ≤ 2 ∧ 0 ≤ e ∧ e ≤ 15 then
    (if e / 4 % 2 = 1 ∧ 2 ≤ s % 16 then 6 else if e % 2 = 1 ∧ r = 1 then 4 else if e % 2 = 1 ∧ r = 2 then 12 else if e / 2 % 2 = 1 ∧ s / 32 % 2 = 1 then 2 else if e / 8 % 2 = 1 ∧ m = true then 0 else 1)
  else 1
def pstatN (p : Prt) : Int := rstatN p.rc + statN p.sd
def pirqN (p : Prt) : Int := if prtV p then irqN (pstatN p) (readyN p.rc) (mchg p.md) p.en else 1

theorem fmtV_bd {f : Fmt} (h : fmtV f = true) : (5 ≤ f.bits ∧ f.bits ≤ 8) ∧ (0 ≤ f.par ∧ f.par ≤ 2) ∧ (1 ≤ f.stop ∧ f.stop ≤ 2) := by
  simp only [fmtV, Bool.and_eq_true, decide_eq_true_eq] at h
  omega
theorem fmtV_yes {a b c : Int} (h : (5 ≤ a ∧ a ≤ 8) ∧ (0 ≤ b ∧ b ≤ 2) ∧ (1 ≤ c ∧ c ≤ 2)) : fmtV ⟨a, b, c⟩ = true := by
  simp [fmtV, h.1.1, h.1.2, h.2.1.1, h.2.1.2, h.2.2.1, h.2.2.2]
theorem fmtV_no {a b c : Int} (h : ¬ ((5 ≤ a ∧ a ≤ 8) ∧ (0 ≤ b ∧ b ≤ 2) ∧ (1 ≤ c ∧ c ≤ 2))) : fmtV ⟨a, b, c⟩ = false := by
  cases hc : fmtV ⟨a, b, c⟩ with
  | false => rfl
  | true => exact absurd (fmtV_bd hc) h
theorem prtV_bd {p : Prt} (h : prtV p = true) : fmtV p.f = true ∧ (0 ≤ p.en ∧ p.en ≤ 15) ∧ (0 ≤ p.co ∧ p.co ≤ 3) ∧ rcvV p.rc = true ∧ sndV p.sd = true := by
  simp only [prtV, Bool.and_eq_true, decide_eq_true_eq] at h
  exact ⟨h.1.1.1.1, h.1.1.1.2, h.1.1.2, h.1.2, h.2⟩
theorem prtV_yes {f : Fmt} {e c : Int} {r : Rcv} {s : Snd} {m : Mdm} (h1 : fmtV f = true) (h2 : 0 ≤ e ∧ e ≤ 15) (h3 : 0 ≤ c ∧ c ≤ 3) (h4 : rcvV r = true) (h5 : sndV s = true) : prtV ⟨f, e, c, r, s, m⟩ = true := by
  simp [prtV, h1, h2.1, h2.2, h3.1, h3.2, h4, h5]
theorem prtV_no {f : Fmt} {e c : Int} {r : Rcv} {s : Snd} {m : Mdm} (h : ¬ (fmtV f = true ∧ (0 ≤ e ∧ e ≤ 15) ∧ (0 ≤ c ∧ c ≤ 3) ∧ rcvV r = true ∧ sndV s = true)) : prtV ⟨f, e, c, r, s, m⟩ = false := by
  cases hc : prtV ⟨f, e, c, r, s, m⟩ with
  | false => rfl
  | true => exact absurd (prtV_bd hc) h
theorem pstat_bd {p : Prt} (h : prtV p = true) : 0 ≤ pstatN p ∧ pstatN p ≤ 127 := by
  obtain ⟨_, _, _, h1, h2⟩ := prtV_bd h
  simp only [pstatN, rstatN, statN, h1, h2, if_true]
  have : 0 ≤ codeN p.rc.items ∧ codeN p.rc.items ≤ 9 := by
    unfold codeN
    split
    · omega
    · split
      · omega
      · split <;> omega
  split <;> split <;> first | omega | (split <;> omega)

def sameP (x y : Prt) : Bool := decide ((x.f.bits = y.f.bits ∧ x.f.par = y.f.par ∧ x.f.stop = y.f.stop) ∧ x.en = y.en ∧ x.co = y.co ∧ (x.md.c = y.md.c ∧ x.md.h = y.md.h ∧ x.md.cc = y.md.cc ∧ x.md.hc = y.md.hc) ∧ (x.rc.room = y.rc.room ∧ x.rc.trig = y.rc.trig ∧ x.rc.lost = y.rc.lost ∧ x.rc.age = y.rc.age ∧ x.rc.items = y.rc.items) ∧ (x.sd.room = y.sd.room ∧ x.sd.shift = y.sd.shift ∧ x.sd.left = y.sd.left ∧ x.sd.items = y.sd.items))
theorem sameP_refl (x : Prt) : sameP x x = true := by simp [sameP]
theorem sameP_eq {x y : Prt} (h : sameP x y = true) : x = y := by
  obtain ⟨⟨_, _, _⟩, _, _, ⟨_, _, _, _, _⟩, ⟨_, _, _, _⟩, ⟨_, _, _, _⟩⟩ := x
  obtain ⟨⟨_, _, _⟩, _, _, ⟨_, _, _, _, _⟩, ⟨_, _, _, _⟩, ⟨_, _, _, _⟩⟩ := y
  simp [sameP] at h
  simp [h]

end Go.Proofs.YtkhggobpanfkfaaDoor
