/-
  What the laws compare: sameInts, sameFifo; and the reference's FifoTake where nothing is taken.
-/
import Derived.Test.YtednhgiabpgleaaTake
namespace Go.Proofs.Ytednhgiabpgleaa
open Go.RowKit

theorem list_ne_at {l m : List Int} {k : Nat} (h : ¬ l.getD k 0 = m.getD k 0) : decide (l = m) = false := by
  apply decide_eq_false
  rintro rfl
  exact h rfl
theorem take_succ_eq {l m : List Int} {k : Nat} (hk : k < l.length) (hk' : k < m.length) (h : l.take k = m.take k) (h2 : l.getD k 0 = m.getD k 0) : l.take (k + 1) = m.take (k + 1) := by
  rw [List.take_add_one, List.take_add_one, h, List.getElem?_eq_getElem hk, List.getElem?_eq_getElem hk']
  simp only [List.getD, List.getElem?_eq_getElem hk, List.getElem?_eq_getElem hk', Option.getD_some] at h2
  rw [h2]

set_option maxHeartbeats 400000 in
theorem sameInts_any (v u : Value) (l m : List Int) (w : World) (hv : Ints w v l) (hu : Ints w u m) (hl : l.length ≤ 1099511627776) :
    Calls Try.prog 21 #[v, u] w fun e w' => ∃ n, e = .returned (.bool (decide (l = m))) ∧ w' = w.drewN n := by
  obtain ⟨a, cap, rfl, hc⟩ := hv.form
  obtain ⟨b, cap', rfl, hd⟩ := hu.form
  by_cases hlen : l.length = m.length
  · have hd' : ∀ k, k < l.length → ∃ g off, b = some ⟨g, off, none⟩ ∧ w.cell? ⟨g, off + k, none⟩ = some (.int .i64 (m.getD k 0)) := fun k hk => hd k (by omega)
    have HL := hid hlen
    rw [← hlen]
    clear hd hlen
    go_enter Try.func21, Try.ntmps21
    go_wp2
    go_loopw [5] (fun i wr => ∃ k n : Nat, k ≤ l.length ∧ i = .int .i64 k ∧ l.take k = m.take k ∧ wr = w.drewN n) (fun i _ => l.length - (intOf i).toNat)
    case atStart => exact ⟨0, 0, Nat.zero_le _, rfl, rfl, rfl⟩
    case round =>
      obtain ⟨k, n, hk, rfl, hk2, rfl⟩ := hrel
      have HK := hid hk2
      clear hk2
      by_cases hlt : k < l.length
      · obtain ⟨g, off, rfl, hcell⟩ := hc k hlt
        obtain ⟨g', off', rfl, hcell'⟩ := hd' k hlt
        clear hc hd'
        by_cases heq : l.getD k 0 = m.getD k 0
        · rw [← heq] at hcell'
          go_wp2_with fail
          refine wp_region_E (fun _ => True) (.op 0 0 (.op 1 0 (.op 2 0 (.op 3 0 (.op 4 0 (.op 5 0 (.op 6 0 (.op 7 0 (.op 8 0 (.nil)))))))))) (by kernel_rfl) rfl (by kernel_rfl) (by kernel_rfl) (by kernel_rfl) (fun _ _ d _ _ h => by cases d <;> exact h) ?_
          go_wp2_with (first
    | (refine wpE_soft (by rfl) (by rfl) (by rfl) (by rfl) ?_; intro K hK)
    | (refine wpE_field (by rfl) (by rfl) (by rfl) (by kernel_rfl) ?_; intro K hK)
    | (refine wpE_conv (k := .i64) (by rfl) (by rfl) (by rfl) (by rfl) (by kernel_rfl) ?_; intro K hK)
    | (refine wpE_load (by rfl) (by rfl) (by rfl) (by rfl) (by first | trivial | (simp; done) | (simp; omega) | omega) (by first | (simp [*]; done) | go_simp) ?_; intro K hK)
    | (refine wpE_late (by rfl) (by rfl) ?_; intro K hK)
    | (refine wpE_skip (by rfl) (by rfl) ?_)
    | (refine wpE_nil ?_))
          go_roundw
          case rel => exact ⟨k + 1, n + 1, by omega, by go_num, take_succ_eq hlt (by have := HL.out; omega) HK.out heq, rfl⟩
          case measure => simp [intOf]; omega
        · have hne : (l.getD k 0 == m.getD k 0) = false := by simpa using heq
          have HE := hid (list_ne_at heq)
          clear heq
          generalize l.getD k 0 = x at hcell hne
          generalize m.getD k 0 = y at hcell' hne
          go_wp2_with fail
          refine wp_region_E (fun _ => True) (.op 0 0 (.op 1 0 (.op 2 0 (.op 3 0 (.op 4 0 (.op 5 0 (.op 6 0 (.op 7 0 (.op 8 0 (.nil)))))))))) (by kernel_rfl) rfl (by kernel_rfl) (by kernel_rfl) (by kernel_rfl) (fun _ _ d _ _ h => by cases d <;> exact h) ?_
          go_wp2_with (first
    | (refine wpE_soft (by rfl) (by rfl) (by rfl) (by rfl) ?_; intro K hK)
    | (refine wpE_field (by rfl) (by rfl) (by rfl) (by kernel_rfl) ?_; intro K hK)
    | (refine wpE_conv (k := .i64) (by rfl) (by rfl) (by rfl) (by rfl) (by kernel_rfl) ?_; intro K hK)
    | (refine wpE_load (by rfl) (by rfl) (by rfl) (by rfl) (by first | trivial | (simp; done) | (simp; omega) | omega) (by first | (simp [*]; done) | go_simp) ?_; intro K hK)
    | (refine wpE_late (by rfl) (by rfl) ?_; intro K hK)
    | (refine wpE_skip (by rfl) (by rfl) ?_)
    | (refine wpE_nil ?_))
          go_ret
          exact ⟨n + 1, ret_b HE.out.symm, rfl⟩
      · go_wp2_with fail
        go_ret
        exact ⟨n, ret_b (decide_eq_true (by have h := HK.out; rwa [List.take_of_length_le (by omega), List.take_of_length_le (by have := HL.out; omega)] at h)).symm, rfl⟩
  · have h : decide (l = m) = false := decide_eq_false (fun e => hlen (by rw [e]))
    rw [h]
    clear h hc hd
    have hne : ((l.length : Int) == (m.length : Int)) = false := by rw [beq_eq_false_iff_ne]; omega
    go_enter Try.func21, Try.ntmps21
    go_wp2
    go_ret
    exact ⟨0, rfl, rfl⟩

set_option maxHeartbeats 400000 in
theorem sameFifo_any (r1 r2 : Int) (v u : Value) (l m : List Int) (w : World) (hv : Ints w v l) (hu : Ints w u m) (hl : l.length ≤ 1099511627776) :
    Calls Try.prog 19 #[.agg #[.int .i64 r1, v], .agg #[.int .i64 r2, u]] w fun e w' => e = .returned (.bool (decide (r1 = r2) && decide (l = m))) ∧ Below w.heap.size w w' := by
  have hb := below_alloc2 w (.cells #[.int .i64 r1, v] 25) (.cells #[.int .i64 r2, u] 25)
  have HV := hid (hv.below hb)
  have HU := hid (hu.below hb)
  obtain ⟨a, cap, rfl, _⟩ := hv.form
  obtain ⟨b, cap', rfl, _⟩ := hu.form
  have HB := hid hb
  clear hb hv hu
  by_cases h1 : r1 = r2
  · subst h1
    go_enter Try.func19, Try.ntmps19
    go_wp2_with fail
    refine (sameInts_any _ _ l m _ HV.out HU.out hl).mono ?_
    rintro e w1 ⟨n, rfl, rfl⟩
    go_wp2_with fail
    go_ret
    exact ⟨ret_b (by simp), below_drewN HB.out n⟩
  · have h1' : (r1 == r2) = false := by simpa using h1
    go_enter Try.func19, Try.ntmps19
    go_wp2_with fail
    go_ret
    exact ⟨ret_b (by simp [h1]), HB.out⟩

set_option maxHeartbeats 400000 in
theorem sFifoTake_bad (room : Int) (v : Value) (l : List Int) (w : World) (hv : Ints w v l) (hl : l.length ≤ 1099511627776) (hok : fifoB room l = false) :
    Calls Try.prog 18 #[.agg #[.int .i64 room, v]] w fun e w' => e = .returned (.tuple #[.agg #[.int .i64 0, .slice none 0 0], .int .i64 0, .bool false]) ∧ Below w.heap.size w w' := by
  have HOK := hid hok
  obtain ⟨a, cap, rfl, -⟩ := hv.form
  have HV := hid hv
  clear hv hok
  go_enter Try.func18, Try.ntmps18
  go_wp2_with fail
  refine (sFifoValid_any _ _ _ _ (HV.out.below (below_alloc2 _ _ _)) hl).mono ?_
  rintro e w1 ⟨rfl, hb1⟩
  rw [HOK.out]
  obtain ⟨k0, k1, hz1, hB⟩ := entry2 hb1
  obtain ⟨c0, f0⟩ := blk k0; replace k0 := hid k0
  obtain ⟨c1, f1⟩ := blk k1; replace k1 := hid k1
  replace hB := hid hB
  clear hb1
  go_wp2
  exact bodyPost_ret (v := .tuple #[.agg #[.int .i64 0, .slice none 0 0], .int .i64 0, .bool false]) (by simp [results, Try.results18, go_sem, c1]) rfl ⟨rfl, (by repeat (first | exact Below.refl _ _ | assumption | exact Hid.out (by assumption) | refine Below.drew ?_ | refine below_drewN ?_ _ | refine Below.alloc ?_ (by first | omega | (simp; done) | (simp; omega)) _ | refine Below.setCell ?_ (by first | omega | (simp; done) | (simp; omega)) _))⟩

set_option maxHeartbeats 400000 in
theorem sFifoTake_nil (room : Int) (v : Value) (w : World) (hv : Ints w v []) (hok : fifoB room [] = true) :
    Calls Try.prog 18 #[.agg #[.int .i64 room, v]] w fun e w' => e = .returned (.tuple #[.agg #[.int .i64 0, .slice none 0 0], .int .i64 0, .bool false]) ∧ Below w.heap.size w w' := by
  have HOK := hid hok
  obtain ⟨a, cap, rfl⟩ := hv.nil
  have HV := hid hv
  clear hv hok
  go_enter Try.func18, Try.ntmps18
  go_wp2_with fail
  refine (sFifoValid_any _ _ [] _ (HV.out.below (below_alloc2 _ _ _)) (by simp)).mono ?_
  rintro e w1 ⟨rfl, hb1⟩
  rw [HOK.out]
  obtain ⟨k0, k1, hz1, hB⟩ := entry2 hb1
  obtain ⟨c0, f0⟩ := blk k0; replace k0 := hid k0
  obtain ⟨c1, f1⟩ := blk k1; replace k1 := hid k1
  replace hB := hid hB
  clear hb1
  go_wp2
  exact bodyPost_ret (v := .tuple #[.agg #[.int .i64 0, .slice none 0 0], .int .i64 0, .bool false]) (by simp [results, Try.results18, go_sem, c1]) rfl ⟨rfl, (by repeat (first | exact Below.refl _ _ | assumption | exact Hid.out (by assumption) | refine Below.drew ?_ | refine below_drewN ?_ _ | refine Below.alloc ?_ (by first | omega | (simp; done) | (simp; omega)) _ | refine Below.setCell ?_ (by first | omega | (simp; done) | (simp; omega)) _))⟩

end Go.Proofs.Ytednhgiabpgleaa
