/-
  What formats, lines and ports are, in plain Lean. No program here.
-/
import Derived.Test.YtacjfkodndkaeaaM3
namespace Go.Proofs.Ytacjfkodndkaeaa
open Go.RowKit
open Ab

structure Fmt where
  bits : Int
  par : Int
  stop : Int
  deriving DecidableEq
def Fmt.d (f : Fmt) : List DL := [.v (.int .i64 f.bits), .v (.int .i64 f.par), .v (.int .i64 f.stop)]
def fmtV (f : Fmt) : Bool := decide (5 ≤ f.bits) && decide (f.bits ≤ 8) && decide (0 ≤ f.par) && decide (f.par ≤ 2) && decide (1 ≤ f.stop) && decide (f.stop ≤ 2)
def fbyN (f : Fmt) : Int := if fmtV f then f.bits - 5 + 4 * (f.stop - 1) + (if f.par = 1 then 8 else if f.par = 2 then 24 else 0) else -1
structure Mdm where
  c : Bool
  h : Bool
  cc : Bool
  hc : Bool
  deriving DecidableEq
def Mdm.d (m : Mdm) : List DL := [.v (.bool m.c), .v (.bool m.h), .v (.bool m.cc), .v (.bool m.hc)]
def msetV (m : Mdm) (c h : Bool) : Mdm := ⟨c, h, m.cc || (m.c != c), m.hc || (m.h != h)⟩
def mreadV (m : Mdm) : Mdm := ⟨m.c, m.h, false, false⟩
def mreadN (m : Mdm) : Int := (if m.cc then 1 else 0) + (if m.hc then 2 else 0) + (if m.c then 16 else 0) + (if m.h then 32 else 0)
def mchg (m : Mdm) : Bool := m.cc || m.hc
structure Prt where
  f : Fmt
  en : Int
  co : Int
  rc : Rcv
  sd : Snd
  md : Mdm
def Prt.d (p : Prt) : List DL := [.v (.int .i64 p.f.bits), .v (.int .i64 p.f.par), .v (.int .i64 p.f.stop), .v (.int .i64 p.en), .v (.int .i64 p.co),
  .v (.int .i64 p.rc.room), .v (.int .i64 p.rc.trig), .s 53 (.gots p.rc.items), .v (.bool p.rc.lost), .v (.int .i64 p.rc.age),
  .v (.int .i64 p.sd.room), .s 3 (.ints p.sd.items), .v (.int .i64 p.sd.shift), .v (.int .i64 p.sd.left),
  .v (.bool p.md.c), .v (.bool p.md.h), .v (.bool p.md.cc), .v (.bool p.md.hc)]
def prtV (p : Prt) : Bool := fmtV p.f && (decide (0 ≤ p.en) && decide (p.en ≤ 15)) && (decide (0 ≤ p.co) && decide (p.co ≤ 3)) && rcvV p.rc && sndV p.sd
def fmt0 : Fmt := ⟨0, 0, 0⟩
def snd0 : Snd := ⟨0, [], 0, 0⟩
def mdm0 : Mdm := ⟨false, false, false, false⟩
def prt0 : Prt := ⟨fmt0, 0, 0, rcv0, snd0, mdm0⟩
def rtickV (r : Rcv) : Rcv := ⟨r.room, r.trig, r.items, r.lost, if 0 < r.items.length then minI (r.age + 1) 99 else 0⟩
structure RTickR where
  r : Rcv
  ok : Bool
def rtickR (r : Rcv) : RTickR := if rcvV r then ⟨rtickV r, true⟩ else ⟨rcv0, false⟩
def RTickR.d (t : RTickR) : DV := .t [.inr t.r.d, .inl (.v (.bool t.ok))]
def readyN (r : Rcv) : Int := if rcvV r then (if r.trig ≤ r.items.length then 1 else if 0 < r.items.length ∧ 4 ≤ r.age then 2 else 0) else 0
def codeN (l : List (Int × Int)) : Int := match l with
  | [] => 0
  | g :: _ => 1 + (if g.2 = 1 then 4 else if g.2 = 2 then 8 else 0)
def rstatN (r : Rcv) : Int := if rcvV r then (if r.lost then 2 else 0) + codeN r.items else -1
def irqN (s r : Int) (m : Bool) (e : Int) : Int :=
  if 0 ≤ s ∧ s ≤ 127 ∧ 0 ≤ r ∧ r ≤ 2 ∧ 0 ≤ e ∧ e ≤ 15 then
    (if e / 4 % 2 = 1 ∧ 2 ≤ s % 16 then 6 else if e % 2 = 1 ∧ r = 1 then 4 else if e % 2 = 1 ∧ r = 2 then 12 else if e / 2 % 2 = 1 ∧ s / 32 % 2 = 1 then 2 else if e / 8 % 2 = 1 ∧ m = true then 0 else 1)
  else 1
def pstatN (p : Prt) : Int := rstatN p.rc + statN p.sd
def pirqN (p : Prt) : Int := if prtV p then irqN (pstatN p) (readyN p.rc) (mchg p.md) p.en else 1

theorem fmtV_bd {f : Fmt} (h : fmtV f = true) : (5 ≤ f.bits ∧ f.bits ≤ 8) ∧ (0 ≤ f.par ∧ f.par ≤ 2) ∧ (1 ≤ f.stop ∧ f.stop ≤ 2) := by
  simp only [fmtV, Bool.and_eq_true, decide_eq_true_eq] at h
  omega
theorem fmtV_yes {a b c : Int} (h : (5 ≤ a ∧ a ≤ 8) ∧ (0 ≤ b ∧ b ≤ 2) ∧ (1 ≤ c ∧ c ≤ 2)) : fmtV ⟨a, b, c⟩ = true := by
  simp [fmtV, h.1.1, h.1.2, h.2.1.1, h.2.1.2, h.2.2.1, h.2.2.2]
theorem fmtV_no {a b c : Int} (h : ¬ ((5 ≤ a ∧ a ≤ 8) ∧ (0 ≤ b ∧ b ≤ 2) ∧ (1 ≤ c ∧ c ≤ 2))) : fmtV ⟨a, b, c⟩ = false := by
  cases hc : fmtV ⟨a, b, c⟩ with
  | false => rfl
  | true => exact absurd (fmtV_bd hc) h
theorem prtV_bd {p : Prt} (h : prtV p = true) : fmtV p.f = true ∧ (0 ≤ p.en ∧ p.en ≤ 15) ∧ (0 ≤ p.co ∧ p.co ≤ 3) ∧ rcvV p.rc = true ∧ sndV p.sd = true := by
  simp only [prtV, Bool.and_eq_true, decide_eq_true_eq] at h
  exact ⟨h.1.1.1.1, h.1.1.1.2, h.1.1.2, h.1.2, h.2⟩
theorem prtV_yes {f : Fmt} {e c : Int} {r : Rcv} {s : Snd} {m : Mdm} (h1 : fmtV f = true) (h2 : 0 ≤ e ∧ e ≤ 15) (h3 : 0 ≤ c ∧ c ≤ 3) (h4 : rcvV r = true) (h5 : sndV s = true) : prtV ⟨f, e, c, r, s, m⟩ = true := by
  simp [prtV, h1, h2.1, h2.2, h3.1, h3.2, h4, h5]
theorem prtV_no {f : Fmt} {e c : Int} {r : Rcv} {s : Snd} {m : Mdm} (h : ¬ (fmtV f = true ∧ (0 ≤ e ∧ e ≤ 15) ∧ (0 ≤ c ∧ c ≤ 3) ∧ rcvV r = true ∧ sndV s = true)) : prtV ⟨f, e, c, r, s, m⟩ = false := by
  cases hc : prtV ⟨f, e, c, r, s, m⟩ with
  | false => rfl
  | true => exact absurd (prtV_bd hc) h
theorem pstat_bd {p : Prt} (h : prtV p = true) : 0 ≤ pstatN p ∧ pstatN p ≤ 127 := by
  obtain ⟨_, _, _, h1, h2⟩ := prtV_bd h
  simp only [pstatN, rstatN, statN, h1, h2, if_true]
  have : 0 ≤ codeN p.rc.items ∧ codeN p.rc.items ≤ 9 := by
    unfold codeN
    split
    · omega
    · split
      · omega
      · split <;> omega
  split <;> split <;> first | omega | (split <;> omega)

def sameP (x y : Prt) : Bool := decide ((x.f.bits = y.f.bits ∧ x.f.par = y.f.par ∧ x.f.stop = y.f.stop) ∧ x.en = y.en ∧ x.co = y.co ∧ (x.md.c = y.md.c ∧ x.md.h = y.md.h ∧ x.md.cc = y.md.cc ∧ x.md.hc = y.md.hc) ∧ (x.rc.room = y.rc.room ∧ x.rc.trig = y.rc.trig ∧ x.rc.lost = y.rc.lost ∧ x.rc.age = y.rc.age ∧ x.rc.items = y.rc.items) ∧ (x.sd.room = y.sd.room ∧ x.sd.shift = y.sd.shift ∧ x.sd.left = y.sd.left ∧ x.sd.items = y.sd.items))
theorem sameP_refl (x : Prt) : sameP x x = true := by simp [sameP]
theorem sameP_eq {x y : Prt} (h : sameP x y = true) : x = y := by
  obtain ⟨⟨_, _, _⟩, _, _, ⟨_, _, _, _, _⟩, ⟨_, _, _, _⟩, ⟨_, _, _, _⟩⟩ := x
  obtain ⟨⟨_, _, _⟩, _, _, ⟨_, _, _, _, _⟩, ⟨_, _, _, _⟩, ⟨_, _, _, _⟩⟩ := y
  simp [sameP] at h
  simp [h]

end Go.Proofs.Ytacjfkodndkaeaa
