/-
  Interrupts: which one counts most; by the abstract walk (the heap is a list; a push puts behind, a pop takes the first one).
-/
import Derived.Test.YtkhggobpanfkfaaDoorM4
import Derived.Test.YtkhggobpanfkfaaDoorG1
import Derived.Test.YtkhggobpanfkfaaDoorAbsW
namespace Go.Proofs.YtkhggobpanfkfaaDoor
open Go.RowKit
open Ab
set_option linter.unusedSimpArgs false
set_option linter.unusedVariables false

abbrev K3 := Int × Int × Int
def kinds : List K3 := [(0, 6, 4), (1, 4, 1), (2, 12, 1), (3, 2, 2), (4, 0, 8), (5, 1, 0)]
def hapB (n s r : Int) (m : Bool) : Bool := if n = 6 then decide (2 ≤ s % 16) else if n = 4 then decide (r = 1) else if n = 12 then decide (r = 2) else if n = 2 then decide (s / 32 % 2 = 1) else if n = 0 then m else false
def enB (b e : Int) : Bool := if b = 4 then decide (e / 4 % 2 = 1) else if b = 1 then decide (e % 2 = 1) else if b = 2 then decide (e / 2 % 2 = 1) else if b = 8 then decide (e / 8 % 2 = 1) else false
def pendQ (s r : Int) (m : Bool) (e : Int) (k : Nat) : List K3 := (kinds.take k).filter fun x => enB x.2.2 e && hapB x.2.1 s r m

theorem bits14 : ∀ n : Fin 128, decide (IntKind.i64.wrap (BitVec.ofInt IntKind.i64.bits (n.val : Int) &&& BitVec.ofInt IntKind.i64.bits 14).toNat = 0) = decide ((n.val : Int) % 16 < 2) := by decide +kernel
theorem bits32 : ∀ n : Fin 128, decide (IntKind.i64.wrap (BitVec.ofInt IntKind.i64.bits (n.val : Int) &&& BitVec.ofInt IntKind.i64.bits 32).toNat = 0) = decide ((n.val : Int) / 32 % 2 = 0) := by decide +kernel
theorem bits4 : ∀ n : Fin 16, (decide (IntKind.i64.wrap (BitVec.ofInt IntKind.i64.bits (n.val : Int) &&& BitVec.ofInt IntKind.i64.bits 4).toNat = 0) = !enB 4 n.val) ∧ (decide (IntKind.i64.wrap (BitVec.ofInt IntKind.i64.bits (n.val : Int) &&& BitVec.ofInt IntKind.i64.bits 1).toNat = 0) = !enB 1 n.val) ∧ (decide (IntKind.i64.wrap (BitVec.ofInt IntKind.i64.bits (n.val : Int) &&& BitVec.ofInt IntKind.i64.bits 2).toNat = 0) = !enB 2 n.val) ∧ (decide (IntKind.i64.wrap (BitVec.ofInt IntKind.i64.bits (n.val : Int) &&& BitVec.ofInt IntKind.i64.bits 8).toNat = 0) = !enB 8 n.val) ∧ (decide (IntKind.i64.wrap (BitVec.ofInt IntKind.i64.bits (n.val : Int) &&& BitVec.ofInt IntKind.i64.bits 0).toNat = 0) = !enB 0 n.val) := by decide +kernel

theorem pend_len (s r : Int) (m : Bool) (e : Int) (k : Nat) : (pendQ s r m e k).length ≤ 6 := by
  refine Nat.le_trans (List.length_filter_le _ _) ?_
  rw [List.length_take]
  simp [kinds]
  omega
theorem pend_rank (s r : Int) (m : Bool) (e : Int) {k : Nat} (hk : k ≤ 6) : ∀ x ∈ pendQ s r m e k, x.1 < k := by
  intro x hx
  have := (List.mem_filter.1 hx).1
  have h : ∀ k : Fin 7, ∀ x ∈ kinds.take k.val, x.1 < (k.val : Int) := by decide
  exact h ⟨k, by omega⟩ x this
theorem pend_irq {s r : Int} {m : Bool} {e : Int} (h : 0 ≤ s ∧ s ≤ 127 ∧ 0 ≤ r ∧ r ≤ 2 ∧ 0 ≤ e ∧ e ≤ 15) : irqN s r m e = (match pendQ s r m e 6 with
    | [] => 1
    | g :: _ => g.2.1) := by
  unfold irqN
  rw [if_pos h]
  have h0 : enB 0 e = false := by simp [enB]
  have h4 : enB 4 e = decide (e / 4 % 2 = 1) := by simp [enB]
  have h1 : enB 1 e = decide (e % 2 = 1) := by simp [enB]
  have h2 : enB 2 e = decide (e / 2 % 2 = 1) := by simp [enB]
  have h8 : enB 8 e = decide (e / 8 % 2 = 1) := by simp [enB]
  have p6 : hapB 6 s r m = decide (2 ≤ s % 16) := by simp [hapB]
  have p4 : hapB 4 s r m = decide (r = 1) := by simp [hapB]
  have p12 : hapB 12 s r m = decide (r = 2) := by simp [hapB]
  have p2 : hapB 2 s r m = decide (s / 32 % 2 = 1) := by simp [hapB]
  have p0 : hapB 0 s r m = m := by simp [hapB]
  have p1 : hapB 1 s r m = false := by simp [hapB]
  simp only [pendQ, kinds, List.take_succ_cons, List.take_zero, List.filter_cons, List.filter_nil, h0, h1, h2, h4, h8, p0, p1, p2, p4, p6, p12]
  by_cases a1 : e / 4 % 2 = 1 ∧ 2 ≤ s % 16
  · simp [a1]
  by_cases a2 : e % 2 = 1 ∧ r = 1
  · simp [a1, a2]
  by_cases a3 : e % 2 = 1 ∧ r = 2
  · simp [a1, a3]
  by_cases a4 : e / 2 % 2 = 1 ∧ s / 32 % 2 = 1
  · simp [a1, a2, a3, a4]
  by_cases a5 : e / 8 % 2 = 1 ∧ m = true
  · simp [a1, a2, a3, a4, a5]
  · simp [a1, a2, a3, a4, a5]

theorem pend_yes {s r : Int} {m : Bool} {e : Int} (k : Nat) {x : K3} (hx : kinds[k]? = some x) (h1 : enB x.2.2 e = true) (h2 : hapB x.2.1 s r m = true) : pendQ s r m e k ++ [x] = pendQ s r m e (k + 1) := by
  simp [pendQ, List.take_add_one, hx, h1, h2]
theorem pend_no {s r : Int} {m : Bool} {e : Int} (k : Nat) {x : K3} (hx : kinds[k]? = some x) (h : (enB x.2.2 e && hapB x.2.1 s r m) = false) : pendQ s r m e k = pendQ s r m e (k + 1) := by
  unfold pendQ
  rw [List.take_add_one, hx, List.filter_append, Option.toList_some, List.filter_cons, h]
  simp
theorem up_no {l : List K3} {x : K3} {a b : Int} (hr : ∀ y ∈ l, y.1 < x.1) (ha : a = l.length) (hb : 0 ≤ b) (hb2 : b ≤ l.length) : ¬ ((l ++ [x]).getD a.toNat (0, 0, 0)).1 < ((l ++ [x]).getD b.toNat (0, 0, 0)).1 := by
  have e : (l ++ [x]).getD a.toNat (0, 0, 0) = x := by subst ha; simp
  rw [e]
  obtain ⟨n, rfl⟩ := Int.eq_ofNat_of_zero_le hb
  have hn : n ≤ l.length := by omega
  rw [Int.toNat_natCast]
  by_cases h : n < l.length
  · have : (l ++ [x]).getD n (0, 0, 0) = l[n] := by simp [List.getD, List.getElem?_append, h]
    rw [this]
    have := hr _ (List.getElem_mem h)
    omega
  · have : n = l.length := by omega
    subst this
    simp

abbrev d3 : K3 := (0, 0, 0)
theorem swap_step {n : Nat} {L : List K3} {i j : Int} (hL : L.length = n + 1) (hi : 0 ≤ i ∧ i < n) (hj : 0 ≤ j ∧ j < n) : ((L.set i.toNat (L.getD j.toNat d3)).set j.toNat (L.getD i.toNat d3)).length = n + 1 ∧ ((L.set i.toNat (L.getD j.toNat d3)).set j.toNat (L.getD i.toNat d3)).getD n d3 = L.getD n d3 := by
  refine ⟨by simp [hL], ?_⟩
  simp only [List.getD_eq_getElem?_getD]
  rw [List.getElem?_set_ne (by omega), List.getElem?_set_ne (by omega)]
theorem swap_start (g : K3) (l : List K3) : (((g :: l).set 0 ((g :: l).getD (((g :: l).length : Int) - 1).toNat d3)).set (((g :: l).length : Int) - 1).toNat ((g :: l).getD 0 d3)).length = l.length + 1 ∧ (((g :: l).set 0 ((g :: l).getD (((g :: l).length : Int) - 1).toNat d3)).set (((g :: l).length : Int) - 1).toNat ((g :: l).getD 0 d3)).getD l.length d3 = g := by
  have e : (((g :: l).length : Int) - 1).toNat = l.length := by simp
  rw [e]
  refine ⟨by simp, ?_⟩
  simp [List.getD_eq_getElem?_getD]

end Go.Proofs.YtkhggobpanfkfaaDoor
