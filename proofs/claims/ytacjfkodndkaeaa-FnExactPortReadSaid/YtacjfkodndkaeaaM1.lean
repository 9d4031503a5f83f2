/-
  What queues and senders do, in plain Lean. No program here.
-/
import Derived.Test.YtacjfkodndkaeaaAbsT
namespace Go.Proofs.Ytacjfkodndkaeaa
open Go.RowKit
open Ab

theorem side_l {p q : Prop} (h : Side p q) : p := by cases h; assumption
theorem side_r {p q : Prop} (h : Side p q) : q := by cases h; assumption
theorem fork_r {p q : Prop} (h : Fork p q) : q := by cases h; assumption
theorem end_r {p : Prop} (h : Ab.End p) : p := by cases h; assumption

/-- FifoTake. -/
structure TakeR where
  room : Int
  items : List Int
  b : Int
  ok : Bool
def takeR (room : Int) (l : List Int) : TakeR := if fifoB room l then (match l with
  | x :: r => ⟨room, r, x, true⟩
  | [] => ⟨0, [], 0, false⟩) else ⟨0, [], 0, false⟩
def fifoD (room : Int) (l : List Int) : List DL := [.v (.int .i64 room), .s 3 (.ints l)]
def TakeR.d (t : TakeR) : DV := .t [.inr (fifoD t.room t.items), .inl (.v (.int .i64 t.b)), .inl (.v (.bool t.ok))]

structure Snd where
  room : Int
  items : List Int
  shift : Int
  left : Int
def Snd.ofT : HL [.int, .ints, .int, .int] → Snd
  | (r, l, s, f, _) => ⟨r, l, s, f⟩
def Snd.d (s : Snd) : List DL := [.v (.int .i64 s.room), .s 3 (.ints s.items), .v (.int .i64 s.shift), .v (.int .i64 s.left)]
def sndV (s : Snd) : Bool := fifoB s.room s.items && (if s.shift = -1 then decide (s.left = 0) else byteB s.shift && (decide (1 ≤ s.left) && decide (s.left ≤ 3)))
/-- The byte on the line: what has left, what is there, how long. -/
def tick1 (s : Snd) : Int × Int × Int := if s.shift = -1 then (-1, -1, s.left) else if s.left = 1 then (s.shift, -1, 0) else (-1, s.shift, s.left - 1)
def tickV (s : Snd) : Snd × Int := if (tick1 s).2.1 = -1 then (match s.items with
  | x :: r => (⟨s.room, r, x, 3⟩, (tick1 s).1)
  | [] => (⟨s.room, [], -1, (tick1 s).2.2⟩, (tick1 s).1)) else (⟨s.room, s.items, (tick1 s).2.1, (tick1 s).2.2⟩, (tick1 s).1)
structure TickR where
  s : Snd
  gone : Int
  ok : Bool
def tickR (s : Snd) : TickR := if sndV s then ⟨(tickV s).1, (tickV s).2, true⟩ else ⟨⟨0, [], 0, 0⟩, 0, false⟩
def TickR.d (t : TickR) : DV := .t [.inr t.s.d, .inl (.v (.int .i64 t.gone)), .inl (.v (.bool t.ok))]
def waitsN (s : Snd) : Int := if sndV s then s.left + 3 * s.items.length + (if s.shift = -1 ∧ 0 < s.items.length then 1 else 0) else -1
def statN (s : Snd) : Int := if sndV s then (if 0 < s.items.length then 0 else if s.shift = -1 then 96 else 32) else -1

theorem fifoB_bd {room : Int} {l : List Int} (h : fifoB room l = true) : 1 ≤ room ∧ room ≤ 16 ∧ (l.length : Int) ≤ room ∧ allB l = true := by
  simp only [fifoB, Bool.and_eq_true, decide_eq_true_eq] at h
  exact ⟨h.1.1.1, h.1.1.2, h.1.2, h.2⟩
theorem byteB_bd {x : Int} (h : byteB x = true) : 0 ≤ x ∧ x ≤ 255 := by
  simpa [byteB] using h
theorem sndV_bd {s : Snd} (h : sndV s = true) : (s.room ≤ 16 ∧ (s.items.length : Int) ≤ s.room ∧ 1 ≤ s.room) ∧ allB s.items = true ∧ ((s.shift = -1 ∧ s.left = 0) ∨ (0 ≤ s.shift ∧ s.shift ≤ 255 ∧ 1 ≤ s.left ∧ s.left ≤ 3)) := by
  simp only [sndV, Bool.and_eq_true] at h
  obtain ⟨h1, h2⟩ := h
  have := fifoB_bd h1
  refine ⟨by omega, this.2.2.2, ?_⟩
  split at h2
  · left; simp at h2; omega
  · right
    simp only [Bool.and_eq_true, decide_eq_true_eq] at h2
    have := byteB_bd h2.1
    omega

end Go.Proofs.Ytacjfkodndkaeaa
