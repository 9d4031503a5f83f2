/-
  Queues (l4_fifos): what the functions of the program and of the reference return.
-/
import Derived.Test.YtkhggobpanfkfaaDoorData
namespace Go.Proofs.YtkhggobpanfkfaaDoor
open Go.RowKit

theorem isByte_any (x : Int) (w : World) : Calls Tryd.prog 91 #[.int .i64 x] w fun e w' => e = .returned (.bool (byteB x)) ∧ w = w' := by
  by_cases h0 : 0 ≤ x
  all_goals
    go_enter Tryd.func91, Tryd.ntmps91
    go_wp2
    go_ret
    exact ⟨ret_b (by rw [Bool.eq_iff_iff]; simp [byteB]; omega), rfl⟩

set_option maxHeartbeats 400000 in
theorem allBytes_any (v : Value) (l : List Int) (w : World) (hv : Ints w v l) (hl : l.length ≤ 1099511627776) :
    Calls Tryd.prog 107 #[v] w fun e w' => e = .returned (.bool (allB l)) ∧ w = w' := by
  obtain ⟨a, cap, rfl, hc⟩ := hv.form
  go_enter Tryd.func107, Tryd.ntmps107
  go_wp2
  go_loop [7] (fun i => ∃ k : Nat, k ≤ l.length ∧ i = .int .i64 k ∧ allB (l.take k) = true) (fun i => l.length - (intOf i).toNat)
  case atStart => exact ⟨0, Nat.zero_le _, rfl, rfl⟩
  case round =>
    obtain ⟨k, hk, rfl, hk2⟩ := hrel
    have HK := hid hk2
    clear hk2
    by_cases hlt : k < l.length
    · obtain ⟨g, off, rfl, hcell⟩ := hc k hlt
      clear hc
      cases hb : byteB l[k]
      · go_wp2_with ((go_at_call 91; refine (isByte_any _ _).mono ?_; rintro e w' ⟨rfl, rfl⟩))
        go_ret
        exact ⟨ret_b (allB_false l k hlt (by simpa [hlt] using hb)).symm, rfl⟩
      · go_wp2_with ((go_at_call 91; refine (isByte_any _ _).mono ?_; rintro e w' ⟨rfl, rfl⟩))
        go_round
        case rel => exact ⟨k + 1, by omega, by go_num, by rw [allB_take_succ l k hlt, HK.out]; simpa [hlt] using hb⟩
        case measure => simp [intOf]; omega
    · go_wp2
      go_ret
      exact ⟨ret_b (by rw [← HK.out, List.take_of_length_le (by omega)]), rfl⟩

set_option maxHeartbeats 400000 in
theorem FifoValid_any (room : Int) (v : Value) (l : List Int) (w : World) (hv : Ints w v l) (hl : l.length ≤ 1099511627776) :
    Calls Tryd.prog 90 #[.agg #[.int .i64 room, v]] w fun e w' => e = .returned (.bool (fifoB room l)) ∧ Below w.heap.size w w' := by
  have hb := below_alloc w (.cells #[.int .i64 room, v] 101)
  have hv2 := hv.below hb
  obtain ⟨a, cap, rfl, _⟩ := hv.form
  have HB := hid hb
  have HV := hid hv2
  clear hb hv2 hv
  by_cases h1 : 1 ≤ room <;> by_cases h2 : room ≤ 16 <;> by_cases h3 : (l.length : Int) ≤ room
  all_goals try (exfalso; omega)
  all_goals
    go_enter Tryd.func90, Tryd.ntmps90
    go_wp2_with ((go_at_call 107; refine (allBytes_any _ l _ HV.out hl).mono ?_; rintro e w' ⟨rfl, rfl⟩))
    go_ret
    exact ⟨ret_b (by first | (simp [fifoB, h1, h2, h3]; done) | (simp [fifoB]; intros; omega)), HB.out⟩

end Go.Proofs.YtkhggobpanfkfaaDoor

/-
  Queues as rings (l4_fifos of the program): put, take, ringOf, fifo.
-/
namespace Go.Proofs.YtkhggobpanfkfaaDoor
open Go.RowKit

/-- The block r holds a ring with a room that reads as l. -/
def Ring (w : World) (r : Nat) (room : Nat) (l : List Int) : Prop := ∃ (cs : Array Value) (first : Nat), w.heap[r]? = some (.cells cs 167 (0, 0)) ∧ cs.size = 19 ∧ cs[16]? = some (.int .i64 room) ∧
  cs[17]? = some (.int .i64 first) ∧ cs[18]? = some (.int .i64 l.length) ∧ first < room ∧ l.length ≤ room ∧ room ≤ 16 ∧ (∀ i, i < l.length → cs[(first + i) % room]? = some (.int .i64 (l.getD i 0))) ∧ ∀ j, j < 16 → ∃ x, cs[j]? = some (.int .i64 x)

theorem ring_set {cs : Array Value} {room first : Nat} {l : List Int} {b : Int} (hs : cs.size = 19) (h0 : cs[16]? = some (.int .i64 room)) (h1 : cs[17]? = some (.int .i64 first)) (hf : first < room) (hl : l.length < room) (hr : room ≤ 16)
    (hc : ∀ i, i < l.length → cs[(first + i) % room]? = some (.int .i64 (l.getD i 0))) (hj : ∀ j, j < 16 → ∃ x, cs[j]? = some (.int .i64 x)) :
    let cs' := (cs.setIfInBounds ((first + l.length) % room) (.int .i64 b)).setIfInBounds 18 (.int .i64 ((l.length : Int) + 1))
    cs'.size = 19 ∧ cs'[16]? = some (.int .i64 room) ∧ cs'[17]? = some (.int .i64 first) ∧ cs'[18]? = some (.int .i64 ((l ++ [b]).length : Nat)) ∧
      (∀ i, i < (l ++ [b]).length → cs'[(first + i) % room]? = some (.int .i64 ((l ++ [b]).getD i 0))) ∧ ∀ j, j < 16 → ∃ x, cs'[j]? = some (.int .i64 x) := by
  have hm : (first + l.length) % room < room := Nat.mod_lt _ (by omega)
  intro cs'
  have get : ∀ j, cs'[j]? = if j = 18 then some (.int .i64 ((l.length : Int) + 1)) else if j = (first + l.length) % room then some (.int .i64 b) else cs[j]? := by
    intro j
    simp only [cs', Array.getElem?_setIfInBounds, Array.size_setIfInBounds, hs]
    by_cases h18 : 18 = j
    · subst h18; simp
    · rw [if_neg h18, if_neg (by omega : ¬ j = 18)]
      by_cases hq : (first + l.length) % room = j
      · rw [if_pos hq, if_pos hq.symm, if_pos (by omega)]
      · rw [if_neg hq, if_neg (by omega)]
  refine ⟨by simp [cs', hs], ?_, ?_, ?_, ?_, ?_⟩
  · rw [get, if_neg (by omega), if_neg (by omega)]; exact h0
  · rw [get, if_neg (by omega), if_neg (by omega)]; exact h1
  · rw [get, if_pos rfl]; simp
  · intro i hi
    have hmi : (first + i) % room < room := Nat.mod_lt _ (by omega)
    rw [get, if_neg (by omega)]
    simp only [List.length_append, List.length_cons, List.length_nil] at hi
    by_cases hil : i = l.length
    · subst hil
      rw [if_pos rfl]
      simp [List.getD]
    · have hne : (first + i) % room ≠ (first + l.length) % room := by
        intro e
        have h1 := Nat.mod_add_div (first + i) room
        have h2 := Nat.mod_add_div (first + l.length) room
        rw [e] at h1
        rcases Nat.lt_trichotomy ((first + i) / room) ((first + l.length) / room) with h | h | h
        · have := Nat.mul_le_mul_left room (show (first + i) / room + 1 ≤ (first + l.length) / room by omega)
          rw [Nat.mul_add] at this; omega
        · rw [h] at h1; omega
        · have := Nat.mul_le_mul_left room (show (first + l.length) / room + 1 ≤ (first + i) / room by omega)
          rw [Nat.mul_add] at this; omega
      rw [if_neg hne, hc i (by omega)]
      simp [List.getD, List.getElem?_append_left (show i < l.length by omega)]
  · intro j hj'
    rw [get, if_neg (by omega)]
    split
    · exact ⟨_, rfl⟩
    · exact hj j hj'

set_option maxHeartbeats 400000 in
theorem put_room (r room : Nat) (l : List Int) (b : Int) (w : World) (h : Ring w r room l) (hl : l.length < room) :
    Calls Tryd.prog 93 #[.pointer (some ⟨r, 0, none⟩), .int .i64 b] w fun e w' => e = .returned (.bool true) ∧ Ring w' r room (l ++ [b]) ∧ w.grownBy w' (some r) := by
  obtain ⟨cs, first, hb, hs, h16, h17, h18, hf, hle, hr, hc, hj⟩ := h
  have RS := hid (ring_set (b := b) hs h16 h17 hf hl hr hc hj)
  obtain ⟨x, hx⟩ := hj ((first + l.length) % room) (by have := Nat.mod_lt (first + l.length) (show 0 < room by omega); omega)
  have hm : (first + l.length) % room < room := Nat.mod_lt _ (by omega)
  have hm2 : ((first : Int) + (l.length : Int)) % (room : Int) = (((first + l.length) % room : Nat) : Int) := by simp
  have hm' : ((first : Int) + (l.length : Int)) % (room : Int) < 16 := by omega
  clear hm2
  have hm0 : 0 ≤ ((first : Int) + (l.length : Int)) % (room : Int) := Int.emod_nonneg _ (by omega)
  obtain ⟨c0, f0⟩ := blk hb
  have HB := hid hb
  have HS := hid hs
  clear hc hj hb hs
  go_enter Tryd.func93, Tryd.ntmps93
  go_wp2
  refine wp_region_E (fun _ => True) (.op 0 0 (.op 1 0 (.op 2 0 (.op 3 0 (.op 4 0 (.op 5 0 (.op 6 0 (.op 7 0 (.op 8 0 (.nil)))))))))) (by kernel_rfl) rfl (by kernel_rfl) (by kernel_rfl) (by kernel_rfl) (fun _ _ d _ _ h => by cases d <;> exact h) ?_
  go_wp2_with (first
    | (refine wpE_soft (by rfl) (by rfl) (by rfl) (by rfl) ?_; intro K hK)
    | (refine wpE_field (by rfl) (by rfl) (by rfl) (by kernel_rfl) ?_; intro K hK)
    | (refine wpE_conv (k := .i64) (by rfl) (by rfl) (by rfl) (by rfl) (by kernel_rfl) ?_; intro K hK)
    | (refine wpE_load (by rfl) (by rfl) (by rfl) (by rfl) (by first | trivial | (simp; done) | (simp; omega) | omega) (by first | (simp [*]; done) | go_simp) ?_; intro K hK)
    | (refine wpE_late (by rfl) (by rfl) ?_; intro K hK)
    | (refine wpE_skip (by rfl) (by rfl) ?_)
    | (refine wpE_nil ?_))
  refine wp_region_E (fun _ => True) (.op 0 0 (.op 1 0 (.op 2 0 (.op 3 0 (.op 4 0 (.op 5 0 (.op 6 0 (.op 7 0 (.op 8 0 (.op 9 0 (.op 10 0 (.op 11 0 (.op 12 0 (.op 13 0 (.op 14 0 (.op 15 0 (.op 16 0 (.op 17 0 (.op 18 0 (.op 19 2 (.nil))))))))))))))))))))) (by kernel_rfl) rfl (by kernel_rfl) (by kernel_rfl) (by kernel_rfl) (fun _ _ d _ _ h => by cases d <;> exact h) ?_
  go_wp2_with (first
    | (refine wpE_soft (by rfl) (by rfl) (by rfl) (by rfl) ?_; intro K hK)
    | (refine wpE_field (by rfl) (by rfl) (by rfl) (by kernel_rfl) ?_; intro K hK)
    | (refine wpE_conv (k := .i64) (by rfl) (by rfl) (by rfl) (by rfl) (by kernel_rfl) ?_; intro K hK)
    | (refine wpE_load (by rfl) (by rfl) (by rfl) (by rfl) (by first | trivial | (simp; done) | (simp; omega) | omega) (by first | (simp [*]; done) | go_simp) ?_; intro K hK)
    | (refine wpE_late (by rfl) (by rfl) ?_; intro K hK)
    | (refine wpE_skip (by rfl) (by rfl) ?_)
    | (refine wpE_nil ?_))
  go_ret
  obtain ⟨r1, r2, r3, r4, r5, r6⟩ := RS.out
  exact ⟨rfl, ⟨_, first, look_set (look_set HB.out), r1, r2, r3, r4, hf, by simp; omega, hr, r5, r6⟩, (by repeat (first | exact grown_refl _ _ | refine grown_drew ?_ | refine grown_set ?_ _))⟩

set_option maxHeartbeats 400000 in
theorem put_full (r room : Nat) (l : List Int) (b : Int) (w : World) (h : Ring w r room l) (hl : l.length = room) :
    Calls Tryd.prog 93 #[.pointer (some ⟨r, 0, none⟩), .int .i64 b] w fun e w' => e = .returned (.bool false) ∧ ∃ n, w' = w.drewN n := by
  obtain ⟨cs, first, hb, hs, h16, h17, h18, hf, hle, hr, hc, hj⟩ := h
  obtain ⟨c0, f0⟩ := blk hb
  subst hl
  clear hc hj hb hs
  go_enter Tryd.func93, Tryd.ntmps93
  go_wp2
  refine wp_region_E (fun _ => True) (.op 0 0 (.op 1 0 (.op 2 0 (.op 3 0 (.op 4 0 (.op 5 0 (.op 6 0 (.op 7 0 (.op 8 0 (.nil)))))))))) (by kernel_rfl) rfl (by kernel_rfl) (by kernel_rfl) (by kernel_rfl) (fun _ _ d _ _ h => by cases d <;> exact h) ?_
  go_wp2_with (first
    | (refine wpE_soft (by rfl) (by rfl) (by rfl) (by rfl) ?_; intro K hK)
    | (refine wpE_field (by rfl) (by rfl) (by rfl) (by kernel_rfl) ?_; intro K hK)
    | (refine wpE_conv (k := .i64) (by rfl) (by rfl) (by rfl) (by rfl) (by kernel_rfl) ?_; intro K hK)
    | (refine wpE_load (by rfl) (by rfl) (by rfl) (by rfl) (by first | trivial | (simp; done) | (simp; omega) | omega) (by first | (simp [*]; done) | go_simp) ?_; intro K hK)
    | (refine wpE_late (by rfl) (by rfl) ?_; intro K hK)
    | (refine wpE_skip (by rfl) (by rfl) ?_)
    | (refine wpE_nil ?_))
  go_ret
  exact ⟨rfl, 1, rfl⟩

theorem Ring.below {w w' : World} {r room : Nat} {l : List Int} (h : Ring w r room l) (hb : Below w.heap.size w w') : Ring w' r room l := by
  obtain ⟨cs, first, h1, h2⟩ := h
  exact ⟨cs, first, look_below hb (Array.getElem?_eq_some_iff.1 h1).1 h1, h2⟩

set_option maxHeartbeats 400000 in
theorem ringOf_any (room : Nat) (v : Value) (l : List Int) (w : World) (hv : Ints w v l) (h1 : 1 ≤ room) (h2 : room ≤ 16) (hl : l.length ≤ room) :
    Calls Tryd.prog 92 #[.agg #[.int .i64 room, v]] w fun e w' => ∃ r, e = .returned (.pointer (some ⟨r, 0, none⟩)) ∧ w.heap.size ≤ r ∧ Ring w' r room l ∧ Below w.heap.size w w' := by
  obtain ⟨a, cap, rfl, hc⟩ := hv.form
  have HV := hid hv
  have HC : Hid (∀ k, k < l.length → ∀ w1, Below w.heap.size w w1 → ∃ g off, a = some ⟨g, off, none⟩ ∧ w1.cell? ⟨g, off + k, none⟩ = some (.int .i64 (l.getD k 0))) := fun k hk w1 hb => by
    obtain ⟨a', cap', he, hc'⟩ := (hv.below hb).form
    simp only [Value.slice.injEq, true_and] at he
    obtain ⟨rfl, rfl⟩ := he
    exact hc' k hk
  clear hv hc
  go_enter Tryd.func92, Tryd.ntmps92
  go_wp2
  go_loopw [13] (fun i wr => ∃ k : Nat, k ≤ l.length ∧ i = .int .i64 k ∧ Ring wr (w.heap.size + 1) room (l.take k) ∧ Below w.heap.size w wr) (fun i _ => l.length - (intOf i).toNat)
  case atStart =>
    refine ⟨0, Nat.zero_le _, rfl, ⟨_, 0, look_new (by simp), by simp, rfl, rfl, rfl, by omega, by simp, h2, by simp, ?_⟩, below_alloc2 _ _ _⟩
    intro j hj
    have : j = 0 ∨ j = 1 ∨ j = 2 ∨ j = 3 ∨ j = 4 ∨ j = 5 ∨ j = 6 ∨ j = 7 ∨ j = 8 ∨ j = 9 ∨ j = 10 ∨ j = 11 ∨ j = 12 ∨ j = 13 ∨ j = 14 ∨ j = 15 := by omega
    rcases this with rfl | rfl | rfl | rfl | rfl | rfl | rfl | rfl | rfl | rfl | rfl | rfl | rfl | rfl | rfl | rfl <;> exact ⟨0, rfl⟩
  case round =>
    obtain ⟨k, hk, rfl, hring, hB⟩ := hrel
    have HR := hid hring
    have hB' := hid hB
    clear hring
    by_cases hlt : k < l.length
    · obtain ⟨g, off, rfl, hcell⟩ := HC.out k hlt _ hB
      clear hB
      go_wp2_with (go_at_call 93; refine (put_room _ _ _ _ _ HR.out (by simp; omega)).mono ?_; rintro e w2 ⟨rfl, hring2, hg⟩)
      go_roundw
      case rel =>
        refine ⟨k + 1, by omega, by go_num, ?_, below_of_grown hB'.out hg (by have := hB'.out.size; omega) (by omega)⟩
        rw [List.take_add_one, List.getElem?_eq_getElem hlt]
        exact hring2
      case measure => simp [intOf]; omega
    · clear hB
      go_wp2
      go_ret
      have hring := HR.out
      rw [List.take_of_length_le (by omega)] at hring
      exact ⟨_, rfl, by omega, hring, hB'.out⟩

theorem ring_take {cs : Array Value} {room first : Nat} {x : Int} {l : List Int} (hs : cs.size = 19) (h0 : cs[16]? = some (.int .i64 room)) (hf : first < room) (hr : room ≤ 16)
    (hc : ∀ i, i < (x :: l).length → cs[(first + i) % room]? = some (.int .i64 ((x :: l).getD i 0))) (hj : ∀ j, j < 16 → ∃ x, cs[j]? = some (.int .i64 x)) :
    let cs' := (cs.setIfInBounds 17 (.int .i64 (((first : Int) + 1) % room))).setIfInBounds 18 (.int .i64 (l.length : Int))
    cs'.size = 19 ∧ cs'[16]? = some (.int .i64 room) ∧ cs'[17]? = some (.int .i64 (((first + 1) % room : Nat) : Int)) ∧ cs'[18]? = some (.int .i64 (l.length : Nat)) ∧
      (∀ i, i < l.length → cs'[((first + 1) % room + i) % room]? = some (.int .i64 (l.getD i 0))) ∧ ∀ j, j < 16 → ∃ x, cs'[j]? = some (.int .i64 x) := by
  intro cs'
  have get : ∀ j, cs'[j]? = if j = 18 then some (.int .i64 (l.length : Int)) else if j = 17 then some (.int .i64 (((first : Int) + 1) % room)) else cs[j]? := by
    intro j
    simp only [cs', Array.getElem?_setIfInBounds, Array.size_setIfInBounds, hs]
    by_cases h18 : 18 = j
    · subst h18; simp
    · rw [if_neg h18, if_neg (by omega : ¬ j = 18)]
      by_cases hq : 17 = j
      · subst hq; simp
      · rw [if_neg hq, if_neg (by omega)]
  refine ⟨by simp [cs', hs], ?_, ?_, ?_, ?_, ?_⟩
  · rw [get, if_neg (by omega), if_neg (by omega)]; exact h0
  · rw [get, if_neg (by omega), if_pos rfl]; simp
  · rw [get, if_pos rfl]
  · intro i hi
    have hmi : ((first + 1) % room + i) % room < room := Nat.mod_lt _ (by omega)
    rw [get, if_neg (by omega), if_neg (by omega), Nat.mod_add_mod, Nat.add_assoc, Nat.add_comm 1 i, hc (i + 1) (by simp; omega)]
    simp
  · intro j hj'
    rw [get, if_neg (by omega), if_neg (by omega)]
    exact hj j hj'

theorem Ring.set {w : World} {r room : Nat} {l : List Int} (h : Ring w r room l) {p : Addr} (hp : p.block ≠ r) (u : Value) : Ring (w.setCell p u) r room l := by
  obtain ⟨cs, first, h1, h2⟩ := h
  exact ⟨cs, first, look_ne hp h1, h2⟩

theorem take_push (l : List Int) (k : Nat) (h : k < l.length) : l.take (k + 1) = l.take k ++ [l[k]] := by rw [List.take_add_one, List.getElem?_eq_getElem h]; rfl

set_option maxRecDepth 100000 in
set_option maxHeartbeats 800000 in
theorem fifo_any (r room : Nat) (l : List Int) (w : World) (h : Ring w r room l) :
    Calls Tryd.prog 94 #[.pointer (some ⟨r, 0, none⟩)] w fun e w' => ∃ a c, e = .returned (.agg #[.int .i64 room, .slice a l.length c]) ∧ OwnI w' w.heap.size (.slice a l.length c) l ∧ Below w.heap.size w w' := by
  obtain ⟨cs, first, hb, hs, h16, h17, h18, hf, hle, hr, hc, hj⟩ := h
  have hrlt := (Array.getElem?_eq_some_iff.1 hb).1
  obtain ⟨c0, f0⟩ := blk hb
  have HB := hid hb
  have HC := hid hc
  clear hc hj hb hs
  go_enter Tryd.func94, Tryd.ntmps94
  go_wp2_with (refine wpList_make_ints rfl (.tmp 8) rfl l.length rfl (by omega) (w.heap.size + 1) (by simp) ?_; intro w1 hown hg; obtain ⟨c2, f2⟩ := blk (look_below hg (by simp; omega) (look_old HB.out)))
  have k1 := hid (look_below hg (by simp) (look_new (w := w) rfl))
  have HR := hid (look_below hg (by simp; omega) (look_old HB.out))
  have hB := hid (below_of (below_alloc w _) hg)
  have hown' : OwnI w1 (w.heap.size + 1) (.slice (some ⟨w.heap.size + 1, 0, none⟩) 0 l.length) [] := by simpa using hown
  clear hg hown c2 f2
  go_loopw [3, 14] (fun v i wr => ∃ (k : Nat) (a : Option Addr) (c : Nat), k ≤ l.length ∧ i = .int .i64 k ∧ v = .slice a k c ∧ OwnI wr (w.heap.size + 1) (.slice a k c) (l.take k) ∧ Below w.heap.size w wr ∧
      wr.heap[w.heap.size]? = some (.cells #[.int .i64 0, .slice none 0 0] 101 (0, 0))) (fun _ i _ => l.length - (intOf i).toNat)
  case atStart => exact ⟨0, _, _, Nat.zero_le _, rfl, rfl, hown', hB.out, k1.out⟩
  case round =>
    obtain ⟨k, a, c, hk, rfl, rfl, hown, hB, k1⟩ := hrel
    have hbr := look_below hB hrlt HB.out
    obtain ⟨c2, f2⟩ := blk hbr
    have HO := hid hown
    have HB1 := hid hB
    have K1 := hid k1
    have hz := hB.size
    have hz2 := (Array.getElem?_eq_some_iff.1 k1).1
    clear hown hB k1 hbr
    by_cases hlt : k < l.length
    · have hx := HC.out k hlt
      have hm0 : 0 ≤ ((first : Int) + (k : Int)) % (room : Int) := Int.emod_nonneg _ (by omega)
      have hm : (first + k) % room < room := Nat.mod_lt _ (by omega)
      have hm2 : ((first : Int) + (k : Int)) % (room : Int) = (((first + k) % room : Nat) : Int) := by simp
      have hm' : ((first : Int) + (k : Int)) % (room : Int) < 16 := by omega
      clear hm2
      go_wp2_with fail
      refine wp_region_E (fun b => b = r) (.op 0 0 (.op 1 0 (.op 2 0 (.op 3 0 (.op 4 0 (.op 5 0 (.op 6 0 (.op 7 0 (.op 8 0 (.op 9 0 (.op 10 0 (.op 11 0 (.op 12 0 (.op 13 0 (.op 14 0 (.op 15 0 (.op 16 0 (.op 17 1 (.op 18 1 (.op 19 2 (.nil))))))))))))))))))))) (by kernel_rfl) rfl (by kernel_rfl) (by kernel_rfl) (by kernel_rfl) (fun _ _ d _ _ h => by cases d <;> exact h) ?_
      go_wp2_with (first
    | (refine wpE_soft (by rfl) (by rfl) (by rfl) (by rfl) ?_; intro K hK)
    | (refine wpE_field (by rfl) (by rfl) (by rfl) (by kernel_rfl) ?_; intro K hK)
    | (refine wpE_conv (k := .i64) (by rfl) (by rfl) (by rfl) (by rfl) (by kernel_rfl) ?_; intro K hK)
    | (refine wpE_load (by rfl) (by rfl) (by rfl) (by rfl) (by first | trivial | (simp; done) | (simp; omega) | omega) (by first | (simp [*]; done) | go_simp) ?_; intro K hK)
    | (refine wpE_late (by rfl) (by rfl) ?_; intro K hK)
    | (refine wpE_skip (by rfl) (by rfl) ?_)
    | (refine wpE_nil ?_))
      refine wpE_eff (by rfl) (by rfl) ?_; intro K hK; go_wp2_with fail; refine ⟨(by first | exact Ex.alloc _ _ _ | exact (Ex.alloc _ _ _).drew), ?_⟩
      refine wpE_eff (by rfl) (by rfl) ?_; intro K hK
      have hlen : (l.take k ++ [l[k]]).length = k + 1 := by simp; omega
      have hrow : ∀ j, (Value.slice a k c).ownBlock = some j → w.heap.size + 1 ≤ j := fun j hj => (HO.out.lt j hj).1
      refine wp_append_ints (.tmp 17) (.tmp 34) rfl (w.heap.size + 1) (.slice a k c) (l.take k) rfl (HO.out.alloc _) _ [l[k]] rfl (Ints.lit1 wr _) (by simp; omega) (by first | omega | (simp; done) | (simp; omega)) ?_
      intro a2 c2 w2 hown2 hg2 _
      rw [hlen] at hown2 ⊢
      refine hK _ _ ⟨Ex.grown hg2 (fun j hj _ e => by have := hrow j hj; omega), ?_⟩
      have K2 := hid (look_grown hg2 (fun e => by have := hrow _ e.symm; omega) (look_old K1.out))
      have HB2 := hid ((HB1.out.alloc (by omega) (.cells #[.int .i64 l[k]] 3)).drew.grown hg2 (by simp; omega) (fun j hj => by have := hrow j hj; omega))
      have HO2 := hid hown2
      clear hrow hown2 hg2 hlen
      go_wp2_with (first
    | (refine wpE_soft (by rfl) (by rfl) (by rfl) (by rfl) ?_; intro K hK)
    | (refine wpE_field (by rfl) (by rfl) (by rfl) (by kernel_rfl) ?_; intro K hK)
    | (refine wpE_conv (k := .i64) (by rfl) (by rfl) (by rfl) (by rfl) (by kernel_rfl) ?_; intro K hK)
    | (refine wpE_load (by rfl) (by rfl) (by rfl) (by rfl) (by first | trivial | (simp; done) | (simp; omega) | omega) (by first | (simp [*]; done) | go_simp) ?_; intro K hK)
    | (refine wpE_late (by rfl) (by rfl) ?_; intro K hK)
    | (refine wpE_skip (by rfl) (by rfl) ?_)
    | (refine wpE_nil ?_))
      go_roundw
      case rel => exact ⟨k + 1, a2, c2, by omega, by go_num, rfl, by rw [take_push l k hlt]; exact HO2.out, HB2.out, K2.out⟩
      case measure => simp [intOf]; omega
    · obtain rfl : k = l.length := by omega
      obtain ⟨c3, f3⟩ := blk K1.out
      have hown := HO.out
      rw [List.take_length] at hown
      replace hown := hid hown
      go_wp2
      exact bodyPost_ret (v := .agg #[.int .i64 room, .slice a l.length c]) (by simp [results, Tryd.results94, go_sem, c3]) rfl ⟨_, _, rfl, OwnI.base (OwnI.set (OwnI.set hown.out (by simp) _) (by simp) _) (by omega), (by repeat (first | (with_reducible exact Hid.out (by assumption)) | (with_reducible assumption) | (with_reducible exact Below.refl _ _) | (with_reducible refine Below.alloc ?_ (by first | omega | (simp; done) | (simp; omega)) _) | (with_reducible refine Below.setCell ?_ (by first | omega | (simp; done) | (simp; omega)) _) | (with_reducible refine Below.drew ?_) | (with_reducible refine below_drewN ?_ _) | exact Below.refl _ _ | assumption | exact Hid.out (by assumption)))⟩

end Go.Proofs.YtkhggobpanfkfaaDoor

/-
  FifoTake, FifoPut of the program and of the reference: what they return.
-/
namespace Go.Proofs.YtkhggobpanfkfaaDoor
open Go.RowKit

theorem fifoB_room {room : Int} {l : List Int} (h : fifoB room l = true) : ∃ n : Nat, room = (n : Int) ∧ 1 ≤ n ∧ n ≤ 16 ∧ l.length ≤ n ∧ allB l = true := by
  simp only [fifoB, Bool.and_eq_true, decide_eq_true_eq] at h
  obtain ⟨⟨⟨h1, h2⟩, h3⟩, h4⟩ := h
  exact ⟨room.toNat, by omega, by omega, by omega, by omega, h4⟩


end Go.Proofs.YtkhggobpanfkfaaDoor
