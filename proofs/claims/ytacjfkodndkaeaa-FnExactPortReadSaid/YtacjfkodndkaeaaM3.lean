/-
  What receivers do, in plain Lean. No program here.
-/
import Derived.Test.YtacjfkodndkaeaaM1
namespace Go.Proofs.Ytacjfkodndkaeaa
open Go.RowKit
open Ab

structure Rcv where
  room : Int
  trig : Int
  items : List (Int × Int)
  lost : Bool
  age : Int
def Rcv.d (r : Rcv) : List DL := [.v (.int .i64 r.room), .v (.int .i64 r.trig), .s 53 (.gots r.items), .v (.bool r.lost), .v (.int .i64 r.age)]
def gotD (g : Int × Int) : List DL := [.v (.int .i64 g.1), .v (.int .i64 g.2)]
def gotB (g : Int × Int) : Bool := byteB g.1 && (decide (0 ≤ g.2) && decide (g.2 ≤ 2))
def allG (l : List (Int × Int)) : Bool := l.all gotB
def rcvV (r : Rcv) : Bool := decide (1 ≤ r.room) && decide (r.room ≤ 16) && decide (1 ≤ r.trig) && decide (r.trig ≤ r.room) && decide ((r.items.length : Int) ≤ r.room) && decide (0 ≤ r.age) && decide (r.age ≤ 99) && allG r.items
def rcv0 : Rcv := ⟨0, 0, [], false, 0⟩

structure RTakeR where
  r : Rcv
  g : Int × Int
  ok : Bool
def rtakeR (r : Rcv) : RTakeR := if rcvV r then (match r.items with
  | g :: l => ⟨⟨r.room, r.trig, l, r.lost, 0⟩, g, true⟩
  | [] => ⟨rcv0, (0, 0), false⟩) else ⟨rcv0, (0, 0), false⟩
def RTakeR.d (t : RTakeR) : DV := .t [.inr t.r.d, .inr (gotD t.g), .inl (.v (.bool t.ok))]
structure RPutR where
  r : Rcv
  ok : Bool
def rputV (r : Rcv) (g : Int × Int) : Rcv := if (r.items.length : Int) < r.room then ⟨r.room, r.trig, r.items ++ [g], r.lost, 0⟩ else ⟨r.room, r.trig, r.items, true, 0⟩
def rputR (r : Rcv) (g : Int × Int) : RPutR := if rcvV r && gotB g then ⟨rputV r g, true⟩ else ⟨rcv0, false⟩
def RPutR.d (t : RPutR) : DV := .t [.inr t.r.d, .inl (.v (.bool t.ok))]

theorem allG_take_succ (l : List (Int × Int)) (k : Nat) (hk : k < l.length) : allG (l.take (k + 1)) = (allG (l.take k) && gotB (l.getD k (0, 0))) := by
  unfold allG
  rw [List.take_add_one, List.all_append, List.getElem?_eq_getElem hk]
  simp [List.getD, hk]
theorem allG_false (l : List (Int × Int)) (k : Nat) (hk : k < l.length) (h : gotB (l.getD k (0, 0)) = false) : allG l = false := by
  unfold allG
  rw [List.all_eq_false]
  refine ⟨l[k], List.getElem_mem hk, ?_⟩
  simp only [List.getD, List.getElem?_eq_getElem hk, Option.getD_some] at h
  simp [h]
theorem rcvV_bd {r : Rcv} (h : rcvV r = true) : (1 ≤ r.room ∧ r.room ≤ 16) ∧ (1 ≤ r.trig ∧ r.trig ≤ r.room) ∧ (r.items.length : Int) ≤ r.room ∧ (0 ≤ r.age ∧ r.age ≤ 99) ∧ allG r.items = true := by
  simp only [rcvV, Bool.and_eq_true, decide_eq_true_eq] at h
  exact ⟨⟨h.1.1.1.1.1.1.1, h.1.1.1.1.1.1.2⟩, ⟨h.1.1.1.1.1.2, h.1.1.1.1.2⟩, h.1.1.1.2, ⟨h.1.1.2, h.1.2⟩, h.2⟩
theorem got_succ_eq {l m : List (Int × Int)} {k : Nat} (hk : k < l.length) (hk' : k < m.length) (h : l.take k = m.take k) (h2 : l.getD k (0, 0) = m.getD k (0, 0)) : l.take (k + 1) = m.take (k + 1) := by
  rw [List.take_add_one, List.take_add_one, h, List.getElem?_eq_getElem hk, List.getElem?_eq_getElem hk']
  simp only [List.getD, List.getElem?_eq_getElem hk, List.getElem?_eq_getElem hk', Option.getD_some] at h2
  rw [h2]
theorem rcvV_no {r t : Int} {l : List (Int × Int)} {o : Bool} {a : Int} (h : ¬ ((1 ≤ r ∧ r ≤ 16) ∧ (1 ≤ t ∧ t ≤ r) ∧ (l.length : Int) ≤ r ∧ (0 ≤ a ∧ a ≤ 99) ∧ allG l = true)) : rcvV ⟨r, t, l, o, a⟩ = false := by
  cases hc : rcvV ⟨r, t, l, o, a⟩ with
  | false => rfl
  | true => exact absurd (rcvV_bd hc) h
theorem rcvV_yes {r t : Int} {l : List (Int × Int)} {o : Bool} {a : Int} (h1 : 1 ≤ r ∧ r ≤ 16) (h2 : 1 ≤ t ∧ t ≤ r) (h3 : (l.length : Int) ≤ r) (h4 : 0 ≤ a ∧ a ≤ 99) (h5 : allG l = true) : rcvV ⟨r, t, l, o, a⟩ = true := by
  simp [rcvV, h1.1, h1.2, h2.1, h2.2, h3, h4.1, h4.2, h5]

end Go.Proofs.Ytacjfkodndkaeaa
