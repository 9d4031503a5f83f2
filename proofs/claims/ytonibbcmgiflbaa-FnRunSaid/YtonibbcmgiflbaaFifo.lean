/-
  Queues (l4_fifos): what the functions of the program and of the reference return.
-/
import Derived.Test.YtonibbcmgiflbaaData
namespace Go.Proofs.Ytonibbcmgiflbaa
open Go.RowKit

theorem isByte_any (x : Int) (w : World) : Calls Try.prog 78 #[.int .i64 x] w fun e w' => e = .returned (.bool (byteB x)) ∧ w = w' := by
  by_cases h0 : 0 ≤ x
  all_goals
    go_enter Try.func78, Try.ntmps78
    go_wp2
    go_ret
    exact ⟨ret_b (by rw [Bool.eq_iff_iff]; simp [byteB]; omega), rfl⟩

set_option maxHeartbeats 400000 in
theorem allBytes_any (v : Value) (l : List Int) (w : World) (hv : Ints w v l) (hl : l.length ≤ 1099511627776) :
    Calls Try.prog 113 #[v] w fun e w' => e = .returned (.bool (allB l)) ∧ w = w' := by
  obtain ⟨a, cap, rfl, hc⟩ := hv.form
  go_enter Try.func113, Try.ntmps113
  go_wp2
  go_loop [7] (fun i => ∃ k : Nat, k ≤ l.length ∧ i = .int .i64 k ∧ allB (l.take k) = true) (fun i => l.length - (intOf i).toNat)
  case atStart => exact ⟨0, Nat.zero_le _, rfl, rfl⟩
  case round =>
    obtain ⟨k, hk, rfl, hk2⟩ := hrel
    have HK := hid hk2
    clear hk2
    by_cases hlt : k < l.length
    · obtain ⟨g, off, rfl, hcell⟩ := hc k hlt
      clear hc
      cases hb : byteB l[k]
      · go_wp2_with ((go_at_call 78; refine (isByte_any _ _).mono ?_; rintro e w' ⟨rfl, rfl⟩))
        go_ret
        exact ⟨ret_b (allB_false l k hlt (by simpa [hlt] using hb)).symm, rfl⟩
      · go_wp2_with ((go_at_call 78; refine (isByte_any _ _).mono ?_; rintro e w' ⟨rfl, rfl⟩))
        go_round
        case rel => exact ⟨k + 1, by omega, by go_num, by rw [allB_take_succ l k hlt, HK.out]; simpa [hlt] using hb⟩
        case measure => simp [intOf]; omega
    · go_wp2
      go_ret
      exact ⟨ret_b (by rw [← HK.out, List.take_of_length_le (by omega)]), rfl⟩

set_option maxHeartbeats 400000 in
theorem FifoValid_any (room : Int) (v : Value) (l : List Int) (w : World) (hv : Ints w v l) (hl : l.length ≤ 1099511627776) :
    Calls Try.prog 77 #[.agg #[.int .i64 room, v]] w fun e w' => e = .returned (.bool (fifoB room l)) ∧ Below w.heap.size w w' := by
  have hb := below_alloc w (.cells #[.int .i64 room, v] 86)
  have hv2 := hv.below hb
  obtain ⟨a, cap, rfl, _⟩ := hv.form
  have HB := hid hb
  have HV := hid hv2
  clear hb hv2 hv
  by_cases h1 : 1 ≤ room <;> by_cases h2 : room ≤ 16 <;> by_cases h3 : (l.length : Int) ≤ room
  all_goals try (exfalso; omega)
  all_goals
    go_enter Try.func77, Try.ntmps77
    go_wp2_with ((go_at_call 113; refine (allBytes_any _ l _ HV.out hl).mono ?_; rintro e w' ⟨rfl, rfl⟩))
    go_ret
    exact ⟨ret_b (by first | (simp [fifoB, h1, h2, h3]; done) | (simp [fifoB]; intros; omega)), HB.out⟩

end Go.Proofs.Ytonibbcmgiflbaa
