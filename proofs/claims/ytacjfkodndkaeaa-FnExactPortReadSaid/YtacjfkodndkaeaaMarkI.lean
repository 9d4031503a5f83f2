/-
  Marks in slices of int (markIntS of the laws of exactness), by hand.
-/
import Derived.Test.YtacjfkodndkaeaaData
namespace Go.Proofs.Ytacjfkodndkaeaa
open Go.RowKit

/-- The marks: k, k + 1 and so on. -/
def markL (k : Int) : Nat → List Int
  | 0 => []
  | n + 1 => k :: markL (k + 1) n
theorem markL_length (k : Int) (n : Nat) : (markL k n).length = n := by
  induction n generalizing k with
  | zero => rfl
  | succ n ih => simp [markL, ih]
theorem markL_getD (k : Int) (n i : Nat) (h : i < n) : (markL k n).getD i 0 = k + i := by
  induction n generalizing k i with
  | zero => omega
  | succ n ih =>
    cases i with
    | zero => simp [markL]
    | succ i =>
      have := ih (k + 1) i (by omega)
      simp only [markL, List.getD_cons_succ, this]
      omega
theorem OwnI.put {w : World} {base g n c : Nat} {l : List Int} (h : OwnI w base (.slice (some ⟨g, 0, none⟩) n c) l) (k : Nat) (x : Int) : OwnI (w.setCell ⟨g, k, none⟩ (.int .i64 x)) base (.slice (some ⟨g, 0, none⟩) n c) (l.set k x) := by
  obtain ⟨-, h2⟩ := h
  refine ⟨by simp, ?_⟩
  rcases h2 with ⟨h2, _⟩ | ⟨g', cap, cur, he, hb, hg, hn, hm, hs, ht⟩
  · simp at h2
  · simp only [Value.slice.injEq, Option.some.injEq, Addr.mk.injEq, and_true] at he
    obtain ⟨rfl, h3, rfl⟩ := he
    refine .inr ⟨g, c, _, by rw [h3, List.length_set], hb, look_set hg, by rw [List.length_set]; exact hn, hm, by simpa using hs, ?_⟩
    rw [List.length_set, List.map_set, ← ht]
    simp [List.take_set]
theorem OwnI.at' {w : World} {base : Nat} {a : Option Addr} {n c : Nat} {l : List Int} (h : OwnI w base (.slice a n c) l) {k : Nat} (hk : k < l.length) : ∃ g, a = some ⟨g, 0, none⟩ ∧ base ≤ g ∧ g < w.heap.size ∧ (∀ j, j < l.length → w.cell? ⟨g, j, none⟩ = some (.int .i64 (l.getD j 0))) ∧ ∀ j, w.frozen? ⟨g, j, none⟩ = false := by
  obtain ⟨_, _, he, hc⟩ := h.ints.form
  simp only [Value.slice.injEq] at he
  obtain ⟨rfl, rfl, rfl⟩ := he
  rcases h.2 with ⟨h2, h3⟩ | ⟨g, cap, cur, he, hb, hg, _⟩
  · omega
  · simp only [Value.slice.injEq] at he
    obtain ⟨rfl, _⟩ := he
    refine ⟨g, rfl, hb, (Array.getElem?_eq_some_iff.1 hg).1, fun j hj => ?_, (blk hg).2⟩
    obtain ⟨g', off, he, hcell⟩ := hc j hj
    simp only [Option.some.injEq, Addr.mk.injEq, and_true] at he
    obtain ⟨rfl, rfl⟩ := he
    simpa using hcell
theorem take_set_succ (l m : List Int) (k : Nat) (hk : k < l.length) (hm : m = l.take k ++ List.replicate (l.length - k) 0) : m.set k (l.getD k 0) = l.take (k + 1) ++ List.replicate (l.length - (k + 1)) 0 := by
  subst hm
  rw [List.set_append_right _ _ (by simp; omega), show l.length - k = (l.length - (k + 1)) + 1 by omega, List.replicate_succ, List.length_take, Nat.min_eq_left (by omega), Nat.sub_self, List.set_cons_zero, show l.take (k + 1) = l.take k ++ [l[k]] by rw [List.take_add_one, List.getElem?_eq_getElem hk]; rfl, List.append_assoc, List.singleton_append]
  simp [List.getD, hk]

/-- The slice v can be read as l (an argument of a law). -/
def ReadI (w : World) (v : Value) (l : List Int) : Prop := ∃ a cap, v = .slice a l.length cap ∧ ∀ k, k < l.length → ∃ g off, a = some ⟨g, off, none⟩ ∧ w.cell? ⟨g, off + k, none⟩ = some (.int .i64 (l.getD k 0))
theorem mark_step (l : List Int) (q : Int) (n k : Nat) (hk : k < n) (hn : l.length = n) : (markL q k ++ l.drop k).set k (q + k) = markL q (k + 1) ++ l.drop (k + 1) := by
  have h1 : ∀ q : Int, ∀ k : Nat, markL q (k + 1) = markL q k ++ [q + k] := by
    intro q k
    induction k generalizing q with
    | zero => simp [markL]
    | succ k ih =>
      rw [markL, ih (q + 1)]
      simp only [markL, List.cons_append]
      congr 3
      omega
  rw [List.set_append_right _ _ (by rw [markL_length]; omega), markL_length, Nat.sub_self, List.drop_eq_getElem_cons (by omega), List.set_cons_zero, h1]
  simp

set_option maxHeartbeats 400000 in
theorem markIntS_any (v : Value) (l : List Int) (q : Int) (base : Nat) (w : World) (hv : OwnI w base v l) (hl : l.length ≤ 1099511627776) (h0 : 0 ≤ q) (h1 : q ≤ 1099511627776) :
    Calls Try.prog 113 #[v, .int .i64 q] w fun e w' => e = .returned (.int .i64 (q + l.length)) ∧ OwnI w' base v (markL q l.length) ∧ w.grownBy w' v.ownBlock := by
  obtain ⟨a, cap, rfl⟩ := hv.form
  obtain ⟨n, hn⟩ : ∃ n, n = l.length := ⟨_, rfl⟩
  rw [← hn] at hl hv ⊢
  have HN := hid hn
  have HV := hid hv
  clear hn hv
  go_enter Try.func113, Try.ntmps113
  go_wp2
  go_loopw [5, 1] (fun i z wr => ∃ k : Nat, k ≤ n ∧ i = .int .i64 k ∧ z = .int .i64 (q + k) ∧ OwnI wr base (.slice a n cap) (markL q k ++ l.drop k) ∧ w.grownBy wr (Value.slice a n cap).ownBlock) (fun i _ _ => n - (intOf i).toNat)
  case atStart => exact ⟨0, Nat.zero_le _, rfl, by simp, by simpa [markL] using HV.out, grown_refl _ _⟩
  case round =>
    obtain ⟨k, hk, rfl, rfl, hO, hG⟩ := hrel
    have HO := hid hO
    have HG := hid hG
    clear hG
    by_cases hlt : k < n
    · have hlen : (markL q k ++ l.drop k).length = n := by have := HN.out; rw [List.length_append, markL_length, List.length_drop]; omega
      obtain ⟨g', rfl, -, hg2, hc2, hf2⟩ := hO.at' (k := k) (by omega)
      have hcw := hc2 k (by omega)
      have hfw := hf2 k
      clear hO hc2 hf2
      go_wp2
      go_roundw
      case rel =>
        refine ⟨k + 1, by omega, by go_num, by go_num, ?_, grown_set HG.out _⟩
        have := HO.out.put k (q + k)
        rwa [mark_step l q n k hlt HN.out.symm] at this
      case measure => simp [intOf]; omega
    · obtain rfl : k = n := by omega
      clear hO
      have hO := HO.out
      rw [HN.out, List.drop_length, List.append_nil, ← HN.out] at hO
      replace HO := hid hO
      clear hO
      go_wp2
      go_ret
      exact ⟨rfl, HO.out, HG.out⟩

end Go.Proofs.Ytacjfkodndkaeaa
