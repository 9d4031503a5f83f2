/-
  Slices of int in the laws of exactness: toIntS, szIntS, eqIntS, markIntS, heldIntS.
-/
import Derived.Test.YtednhgiabpgleaaSame
namespace Go.Proofs.Ytednhgiabpgleaa
open Go.RowKit

theorem szIntS_any (a : Option Addr) (n cap : Nat) (left : Int) (w : World) (h0 : 0 ≤ left) (h1 : left ≤ 1048576) (hn : n ≤ 9223372036854775807) :
    Calls Try.prog 64 #[.slice a n cap, .int .i64 left] w fun e w' => e = .returned (.int .i64 (if left < n then -1 else left - n)) ∧ w = w' := by
  by_cases h : left < n
  · rw [if_pos h]
    go_enter Try.func64, Try.ntmps64
    go_wp2
    go_ret
    exact ⟨rfl, rfl⟩
  · rw [if_neg h]
    go_enter Try.func64, Try.ntmps64
    go_wp2
    go_ret
    exact ⟨rfl, rfl⟩

set_option maxHeartbeats 400000 in
theorem eqIntS_any (v u : Value) (l m : List Int) (w : World) (hv : Ints w v l) (hu : Ints w u m) (hl : l.length ≤ 1099511627776) :
    Calls Try.prog 66 #[v, u] w fun e w' => ∃ n, e = .returned (.bool (decide (l = m))) ∧ w' = w.drewN n := by
  obtain ⟨a, cap, rfl, hc⟩ := hv.form
  obtain ⟨b, cap', rfl, hd⟩ := hu.form
  by_cases hlen : l.length = m.length
  · have hd' : ∀ k, k < l.length → ∃ g off, b = some ⟨g, off, none⟩ ∧ w.cell? ⟨g, off + k, none⟩ = some (.int .i64 (m.getD k 0)) := fun k hk => hd k (by omega)
    have HL := hid hlen
    rw [← hlen]
    clear hd hlen
    go_enter Try.func66, Try.ntmps66
    go_wp2
    go_loopw [5] (fun i wr => ∃ k n : Nat, k ≤ l.length ∧ i = .int .i64 k ∧ l.take k = m.take k ∧ wr = w.drewN n) (fun i _ => l.length - (intOf i).toNat)
    case atStart => exact ⟨0, 0, Nat.zero_le _, rfl, rfl, rfl⟩
    case round =>
      obtain ⟨k, n, hk, rfl, hk2, rfl⟩ := hrel
      have HK := hid hk2
      clear hk2
      by_cases hlt : k < l.length
      · obtain ⟨g, off, rfl, hcell⟩ := hc k hlt
        obtain ⟨g', off', rfl, hcell'⟩ := hd' k hlt
        clear hc hd'
        by_cases heq : l.getD k 0 = m.getD k 0
        · rw [← heq] at hcell'
          go_wp2_with fail
          refine wp_region_E (fun _ => True) (.op 0 0 (.op 1 0 (.op 2 0 (.op 3 0 (.op 4 0 (.op 5 0 (.op 6 0 (.op 7 0 (.op 8 0 (.nil)))))))))) (by kernel_rfl) rfl (by kernel_rfl) (by kernel_rfl) (by kernel_rfl) (fun _ _ d _ _ h => by cases d <;> exact h) ?_
          go_wp2_with (first
    | (refine wpE_soft (by rfl) (by rfl) (by rfl) (by rfl) ?_; intro K hK)
    | (refine wpE_field (by rfl) (by rfl) (by rfl) (by kernel_rfl) ?_; intro K hK)
    | (refine wpE_conv (k := .i64) (by rfl) (by rfl) (by rfl) (by rfl) (by kernel_rfl) ?_; intro K hK)
    | (refine wpE_load (by rfl) (by rfl) (by rfl) (by rfl) (by first | trivial | (simp; done) | (simp; omega) | omega) (by first | (simp [*]; done) | go_simp) ?_; intro K hK)
    | (refine wpE_late (by rfl) (by rfl) ?_; intro K hK)
    | (refine wpE_skip (by rfl) (by rfl) ?_)
    | (refine wpE_nil ?_))
          go_roundw
          case rel => exact ⟨k + 1, n + 1, by omega, by go_num, take_succ_eq hlt (by have := HL.out; omega) HK.out heq, rfl⟩
          case measure => simp [intOf]; omega
        · have hne : (l.getD k 0 == m.getD k 0) = false := by simpa using heq
          have HE := hid (list_ne_at heq)
          clear heq
          generalize l.getD k 0 = x at hcell hne
          generalize m.getD k 0 = y at hcell' hne
          go_wp2_with fail
          refine wp_region_E (fun _ => True) (.op 0 0 (.op 1 0 (.op 2 0 (.op 3 0 (.op 4 0 (.op 5 0 (.op 6 0 (.op 7 0 (.op 8 0 (.nil)))))))))) (by kernel_rfl) rfl (by kernel_rfl) (by kernel_rfl) (by kernel_rfl) (fun _ _ d _ _ h => by cases d <;> exact h) ?_
          go_wp2_with (first
    | (refine wpE_soft (by rfl) (by rfl) (by rfl) (by rfl) ?_; intro K hK)
    | (refine wpE_field (by rfl) (by rfl) (by rfl) (by kernel_rfl) ?_; intro K hK)
    | (refine wpE_conv (k := .i64) (by rfl) (by rfl) (by rfl) (by rfl) (by kernel_rfl) ?_; intro K hK)
    | (refine wpE_load (by rfl) (by rfl) (by rfl) (by rfl) (by first | trivial | (simp; done) | (simp; omega) | omega) (by first | (simp [*]; done) | go_simp) ?_; intro K hK)
    | (refine wpE_late (by rfl) (by rfl) ?_; intro K hK)
    | (refine wpE_skip (by rfl) (by rfl) ?_)
    | (refine wpE_nil ?_))
          go_ret
          exact ⟨n + 1, ret_b HE.out.symm, rfl⟩
      · go_wp2_with fail
        go_ret
        exact ⟨n, ret_b (decide_eq_true (by have h := HK.out; rwa [List.take_of_length_le (by omega), List.take_of_length_le (by have := HL.out; omega)] at h)).symm, rfl⟩
  · have h : decide (l = m) = false := decide_eq_false (fun e => hlen (by rw [e]))
    rw [h]
    clear h hc hd
    have hne : ((l.length : Int) == (m.length : Int)) = false := by rw [beq_eq_false_iff_ne]; omega
    go_enter Try.func66, Try.ntmps66
    go_wp2
    go_ret
    exact ⟨0, rfl, rfl⟩

/-- The marks: k, k + 1 and so on. -/
def markL (k : Int) : Nat → List Int
  | 0 => []
  | n + 1 => k :: markL (k + 1) n
theorem markL_length (k : Int) (n : Nat) : (markL k n).length = n := by
  induction n generalizing k with
  | zero => rfl
  | succ n ih => simp [markL, ih]
theorem markL_getD (k : Int) (n i : Nat) (h : i < n) : (markL k n).getD i 0 = k + i := by
  induction n generalizing k i with
  | zero => omega
  | succ n ih =>
    cases i with
    | zero => simp [markL]
    | succ i =>
      have := ih (k + 1) i (by omega)
      simp only [markL, List.getD_cons_succ, this]
      omega

theorem heldIntS_any (v : Value) (n : Nat) (q : Int) (w : World) (hv : Ints w v (markL q n)) (hn : n ≤ 1099511627776) (h0 : 0 ≤ q) (h1 : q ≤ 1099511627776) :
    Calls Try.prog 68 #[v, .int .i64 q] w fun e w' => e = .returned (.int .i64 (q + n)) ∧ w = w' := by
  obtain ⟨a, cap, rfl, hc⟩ := hv.form
  rw [markL_length] at hc ⊢
  have hc' : ∀ k, k < n → ∃ g off, a = some ⟨g, off, none⟩ ∧ w.cell? ⟨g, off + k, none⟩ = some (.int .i64 (q + k)) := fun k hk => by
    obtain ⟨g, off, h1, h2⟩ := hc k hk
    exact ⟨g, off, h1, by rw [h2, markL_getD q n k hk]⟩
  clear hc
  go_enter Try.func68, Try.ntmps68
  go_wp2
  go_loop [5, 1] (fun i z => ∃ k : Nat, k ≤ n ∧ i = .int .i64 k ∧ z = .int .i64 (q + k)) (fun i _ => n - (intOf i).toNat)
  case atStart => exact ⟨0, Nat.zero_le _, rfl, by simp⟩
  case round =>
    obtain ⟨k, hk, rfl, rfl⟩ := hrel
    by_cases hlt : k < n
    · obtain ⟨g, off, rfl, hcell⟩ := hc' k hlt
      clear hc'
      go_wp2
      go_round
      case rel => exact ⟨k + 1, by omega, by go_num, by go_num⟩
      case measure => simp [intOf]; omega
    · obtain rfl : k = n := by omega
      go_wp2
      go_ret
      exact ⟨rfl, rfl⟩

/-- What is owned, written at one place. -/
theorem OwnI.put {w : World} {base g n c : Nat} {l : List Int} (h : OwnI w base (.slice (some ⟨g, 0, none⟩) n c) l) (k : Nat) (x : Int) : OwnI (w.setCell ⟨g, k, none⟩ (.int .i64 x)) base (.slice (some ⟨g, 0, none⟩) n c) (l.set k x) := by
  obtain ⟨-, h2⟩ := h
  refine ⟨by simp, ?_⟩
  rcases h2 with ⟨h2, _⟩ | ⟨g', cap, cur, he, hb, hg, hn, hm, hs, ht⟩
  · simp at h2
  · simp only [Value.slice.injEq, Option.some.injEq, Addr.mk.injEq, and_true] at he
    obtain ⟨rfl, h3, rfl⟩ := he
    refine .inr ⟨g, c, _, by rw [h3, List.length_set], hb, look_set hg, by rw [List.length_set]; exact hn, hm, by simpa using hs, ?_⟩
    rw [List.length_set, List.map_set, ← ht]
    simp [List.take_set]
theorem OwnI.at' {w : World} {base : Nat} {a : Option Addr} {n c : Nat} {l : List Int} (h : OwnI w base (.slice a n c) l) {k : Nat} (hk : k < l.length) : ∃ g, a = some ⟨g, 0, none⟩ ∧ base ≤ g ∧ g < w.heap.size ∧ (∀ j, j < l.length → w.cell? ⟨g, j, none⟩ = some (.int .i64 (l.getD j 0))) ∧ ∀ j, w.frozen? ⟨g, j, none⟩ = false := by
  obtain ⟨_, _, he, hc⟩ := h.ints.form
  simp only [Value.slice.injEq] at he
  obtain ⟨rfl, rfl, rfl⟩ := he
  rcases h.2 with ⟨h2, h3⟩ | ⟨g, cap, cur, he, hb, hg, _⟩
  · omega
  · simp only [Value.slice.injEq] at he
    obtain ⟨rfl, _⟩ := he
    refine ⟨g, rfl, hb, (Array.getElem?_eq_some_iff.1 hg).1, fun j hj => ?_, (blk hg).2⟩
    obtain ⟨g', off, he, hcell⟩ := hc j hj
    simp only [Option.some.injEq, Addr.mk.injEq, and_true] at he
    obtain ⟨rfl, rfl⟩ := he
    simpa using hcell

/-- 'make([]int, n)'. -/
theorem wpList_make_full_ints {w : World} {ops : Array Oper} {rest : List Oper} {o : Oper} {a : Act} {Q : Exit → Act → World → Prop} (hg : o.guard = none) (l c : Operand)
    (hop : o.op = Op.makeSlice 23 l c) (n : Nat) (hl : a.eval l = .int .i64 n) (hc : a.eval c = .int .i64 n) (hn : n ≤ 1099511627776) (base : Nat) (hb : base ≤ w.heap.size)
    (hK : ∀ w', OwnI w' base (.slice (some ⟨w.heap.size, 0, none⟩) n n) (List.replicate n 0) → Below w.heap.size w w' → wpList Try.prog ops Q rest (a.put o.dst (.slice (some ⟨w.heap.size, 0, none⟩) n n)) w') :
    wpList Try.prog ops Q (o :: rest) a w := by
  obtain ⟨i0, hi0, hz0, hz1, hz2⟩ := info_parts infoInt
  exact wpList_make_full w hg l c 23 hop base 3 i0 (.int .i64 0) 1 Try.underlying23 hi0 hz0 hz1 .i64 .i64 n n n hl hc rfl rfl (by rw [hz2]; omega) (by unfold maxLen; omega) hb
    fun w' h1 h2 => hK w' (by unfold OwnI; rw [List.length_replicate, List.map_replicate, ← toList_madeCells_one]; simpa [Value.cells] using h1) ⟨h2.os, h2.tape, h2.output, h2.size, fun k hk => h2.block k hk (by simp)⟩

theorem take_set_succ (l m : List Int) (k : Nat) (hk : k < l.length) (hm : m = l.take k ++ List.replicate (l.length - k) 0) : m.set k (l.getD k 0) = l.take (k + 1) ++ List.replicate (l.length - (k + 1)) 0 := by
  subst hm
  rw [List.set_append_right _ _ (by simp; omega), show l.length - k = (l.length - (k + 1)) + 1 by omega, List.replicate_succ, List.length_take, Nat.min_eq_left (by omega), Nat.sub_self, List.set_cons_zero, show l.take (k + 1) = l.take k ++ [l[k]] by rw [List.take_add_one, List.getElem?_eq_getElem hk]; rfl, List.append_assoc, List.singleton_append]
  simp [List.getD, hk]

/-- The slice v can be read as l (an argument of a law). -/
def ReadI (w : World) (v : Value) (l : List Int) : Prop := ∃ a cap, v = .slice a l.length cap ∧ ∀ k, k < l.length → ∃ g off, a = some ⟨g, off, none⟩ ∧ w.cell? ⟨g, off + k, none⟩ = some (.int .i64 (l.getD k 0))
theorem ReadI.below {w w' : World} {v : Value} {l : List Int} (h : ReadI w v l) (hb : Below w.heap.size w w') : ReadI w' v l := by
  obtain ⟨a, cap, rfl, h⟩ := h
  refine ⟨a, cap, rfl, fun k hk => ?_⟩
  obtain ⟨g, off, rfl, hx⟩ := h k hk
  exact ⟨g, off, rfl, (hb.cell (p := ⟨g, off + k, none⟩) (World.block_lt_of_cell? w _ hx)).trans hx⟩

set_option maxHeartbeats 400000 in
theorem toIntS_any (v : Value) (l : List Int) (w : World) (hv : ReadI w v l) (hl : l.length ≤ 1099511627776) :
    Calls Try.prog 65 #[v] w fun e w' => ∃ a c, e = .returned (.slice a l.length c) ∧ OwnI w' w.heap.size (.slice a l.length c) l ∧ Below w.heap.size w w' := by
  have hv0 := hv
  obtain ⟨a, cap, rfl, -⟩ := hv0
  have HC : Hid (∀ wx, Below w.heap.size w wx → ∀ k, k < l.length → ∃ g off, a = some ⟨g, off, none⟩ ∧ g < w.heap.size ∧ wx.cell? ⟨g, off + k, none⟩ = some (.int .i64 (l.getD k 0))) := fun wx hb k hk => by
    obtain ⟨a', cap', he, hc'⟩ := hv.below hb
    obtain ⟨a2, cap2, he2, hc2⟩ := hv
    simp only [Value.slice.injEq, true_and] at he he2
    obtain ⟨rfl, rfl⟩ := he
    obtain ⟨rfl, rfl⟩ := he2
    obtain ⟨g, off, rfl, hx⟩ := hc2 k hk
    obtain ⟨g', off', he, hy⟩ := hc' k hk
    simp only [Option.some.injEq, Addr.mk.injEq, and_true] at he
    obtain ⟨rfl, rfl⟩ := he
    exact ⟨g, off, rfl, World.block_lt_of_cell? w _ hx, hy⟩
  clear hv
  obtain ⟨n, hn⟩ : ∃ n, n = l.length := ⟨_, rfl⟩
  rw [← hn] at hl HC ⊢
  have HN := hid hn
  clear hn
  go_enter Try.func65, Try.ntmps65
  go_wp2_with (refine wpList_make_full_ints rfl (.tmp 6) (.tmp 6) rfl n rfl rfl (by omega) w.heap.size (by simp) ?_; intro w1 hown hb)
  have hz := hown.lt w.heap.size rfl
  have HO := hid hown
  have hB := hid hb
  clear hown hb
  go_loopw [4] (fun i wr => ∃ k : Nat, k ≤ n ∧ i = .int .i64 k ∧ OwnI wr w.heap.size (.slice (some ⟨w.heap.size, 0, none⟩) n n) (l.take k ++ List.replicate (n - k) 0) ∧ Below w.heap.size w wr) (fun i _ => n - (intOf i).toNat)
  case atStart => exact ⟨0, Nat.zero_le _, rfl, by simpa using HO.out, hB.out⟩
  case round =>
    obtain ⟨k, hk, rfl, hO, hB⟩ := hrel
    have HO := hid hO
    have HB := hid hB
    by_cases hlt : k < n
    · obtain ⟨g, off, rfl, hg, hcell⟩ := HC.out _ hB k hlt
      have hlen : (l.take k ++ List.replicate (n - k) 0).length = n := by have := HN.out; simp; omega
      obtain ⟨g', he, -, hg2, hc2, hf2⟩ := hO.at' (k := k) (by omega)
      simp only [Option.some.injEq, Addr.mk.injEq, and_true] at he
      subst he
      have hcw := hc2 k (by omega)
      have hfw := hf2 k
      clear hO hB hc2 hf2
      generalize hx : l.getD k 0 = x at hcell
      have HX := hid hx
      clear hx
      go_wp2
      go_roundw
      case rel =>
        refine ⟨k + 1, by omega, by go_num, ?_, (by repeat (first | exact Below.refl _ _ | assumption | exact Hid.out (by assumption) | refine Below.drew ?_ | refine below_drewN ?_ _ | refine Below.alloc ?_ (by first | omega | (simp; done) | (simp; omega)) _ | refine Below.setCell ?_ (by first | omega | (simp; done) | (simp; omega)) _))⟩
        have := HO.out.put k x
        rw [HN.out, ← HX.out, take_set_succ l _ k (by have := HN.out; omega) rfl] at this
        rw [HN.out, ← HX.out]; exact this
      case measure => simp [intOf]; omega
    · obtain rfl : k = n := by omega
      clear hO hB
      have hO := HO.out
      rw [HN.out, List.take_length, Nat.sub_self, List.replicate_zero, List.append_nil, ← HN.out] at hO
      replace HO := hid hO
      clear hO
      go_wp2
      go_ret
      exact ⟨_, _, rfl, HO.out, HB.out⟩

theorem mark_step (l : List Int) (q : Int) (n k : Nat) (hk : k < n) (hn : l.length = n) : (markL q k ++ l.drop k).set k (q + k) = markL q (k + 1) ++ l.drop (k + 1) := by
  have h1 : ∀ q : Int, ∀ k : Nat, markL q (k + 1) = markL q k ++ [q + k] := by
    intro q k
    induction k generalizing q with
    | zero => simp [markL]
    | succ k ih =>
      rw [markL, ih (q + 1)]
      simp only [markL, List.cons_append]
      congr 3
      omega
  rw [List.set_append_right _ _ (by rw [markL_length]; omega), markL_length, Nat.sub_self, List.drop_eq_getElem_cons (by omega), List.set_cons_zero, h1]
  simp

set_option maxHeartbeats 400000 in
theorem markIntS_any (v : Value) (l : List Int) (q : Int) (base : Nat) (w : World) (hv : OwnI w base v l) (hl : l.length ≤ 1099511627776) (h0 : 0 ≤ q) (h1 : q ≤ 1099511627776) :
    Calls Try.prog 67 #[v, .int .i64 q] w fun e w' => e = .returned (.int .i64 (q + l.length)) ∧ OwnI w' base v (markL q l.length) ∧ w.grownBy w' v.ownBlock := by
  obtain ⟨a, cap, rfl⟩ := hv.form
  obtain ⟨n, hn⟩ : ∃ n, n = l.length := ⟨_, rfl⟩
  rw [← hn] at hl hv ⊢
  have HN := hid hn
  have HV := hid hv
  clear hn hv
  go_enter Try.func67, Try.ntmps67
  go_wp2
  go_loopw [5, 1] (fun i z wr => ∃ k : Nat, k ≤ n ∧ i = .int .i64 k ∧ z = .int .i64 (q + k) ∧ OwnI wr base (.slice a n cap) (markL q k ++ l.drop k) ∧ w.grownBy wr (Value.slice a n cap).ownBlock) (fun i _ _ => n - (intOf i).toNat)
  case atStart => exact ⟨0, Nat.zero_le _, rfl, by simp, by simpa [markL] using HV.out, grown_refl _ _⟩
  case round =>
    obtain ⟨k, hk, rfl, rfl, hO, hG⟩ := hrel
    have HO := hid hO
    have HG := hid hG
    clear hG
    by_cases hlt : k < n
    · have hlen : (markL q k ++ l.drop k).length = n := by have := HN.out; rw [List.length_append, markL_length, List.length_drop]; omega
      obtain ⟨g', rfl, -, hg2, hc2, hf2⟩ := hO.at' (k := k) (by omega)
      have hcw := hc2 k (by omega)
      have hfw := hf2 k
      clear hO hc2 hf2
      go_wp2
      go_roundw
      case rel =>
        refine ⟨k + 1, by omega, by go_num, by go_num, ?_, grown_set HG.out _⟩
        have := HO.out.put k (q + k)
        rwa [mark_step l q n k hlt HN.out.symm] at this
      case measure => simp [intOf]; omega
    · obtain rfl : k = n := by omega
      clear hO
      have hO := HO.out
      rw [HN.out, List.drop_length, List.append_nil, ← HN.out] at hO
      replace HO := hid hO
      clear hO
      go_wp2
      go_ret
      exact ⟨rfl, HO.out, HG.out⟩

end Go.Proofs.Ytednhgiabpgleaa
