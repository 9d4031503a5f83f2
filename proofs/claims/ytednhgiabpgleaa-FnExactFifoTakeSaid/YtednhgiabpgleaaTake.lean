import Derived.Test.YtednhgiabpgleaaFifo
namespace Go.Proofs.Ytednhgiabpgleaa
open Go.RowKit

theorem l6In_any (x a b : Int) (w : World) : Calls Try.prog 88 #[.int .i64 x, .int .i64 a, .int .i64 b] w fun e w' => e = .returned (.bool (decide (a ≤ x) && decide (x ≤ b))) ∧ w = w' := by
  by_cases h0 : a ≤ x
  all_goals
    go_enter Try.func88, Try.ntmps88
    go_wp2
    go_ret
    exact ⟨ret_b (by rw [Bool.eq_iff_iff]; simp; omega), rfl⟩

set_option maxHeartbeats 400000 in
theorem l4Bytes_any (v : Value) (l : List Int) (w : World) (hv : Ints w v l) (hl : l.length ≤ 1099511627776) :
    Calls Try.prog 89 #[v] w fun e w' => e = .returned (.bool (allB l)) ∧ w = w' := by
  obtain ⟨a, cap, rfl, hc⟩ := hv.form
  go_enter Try.func89, Try.ntmps89
  go_wp2
  go_loop [3] (fun i => ∃ k : Nat, k ≤ l.length ∧ i = .int .i64 k ∧ allB (l.take k) = true) (fun i => l.length - (intOf i).toNat)
  case atStart => exact ⟨0, Nat.zero_le _, rfl, rfl⟩
  case round =>
    obtain ⟨k, hk, rfl, hk2⟩ := hrel
    have HK := hid hk2
    clear hk2
    by_cases hlt : k < l.length
    · obtain ⟨g, off, rfl, hcell⟩ := hc k hlt
      clear hc
      cases hb : byteB l[k]
      all_goals
        have hb' := hb
        unfold byteB at hb'
        have HB := hid hb
        clear hb
        go_wp2_with ((go_at_call 88; refine (l6In_any _ _ _ _).mono ?_; rintro e w' ⟨rfl, rfl⟩))
        replace hb := HB.out
      · go_ret
        exact ⟨ret_b (allB_false l k hlt (by simpa [hlt] using hb)).symm, rfl⟩
      · go_round
        case rel => exact ⟨k + 1, by omega, by go_num, by rw [allB_take_succ l k hlt, HK.out]; simpa [hlt] using hb⟩
        case measure => simp [intOf]; omega
    · go_wp2
      go_ret
      exact ⟨ret_b (by rw [← HK.out, List.take_of_length_le (by omega)]), rfl⟩

set_option maxHeartbeats 400000 in
theorem sFifoValid_any (room : Int) (v : Value) (l : List Int) (w : World) (hv : Ints w v l) (hl : l.length ≤ 1099511627776) :
    Calls Try.prog 60 #[.agg #[.int .i64 room, v]] w fun e w' => e = .returned (.bool (fifoB room l)) ∧ Below w.heap.size w w' := by
  have hb := below_alloc w (.cells #[.int .i64 room, v] 25)
  have hv2 := hv.below hb
  obtain ⟨a, cap, rfl, _⟩ := hv.form
  have HB := hid hb
  have HV := hid hv2
  clear hb hv2 hv
  by_cases h1 : 1 ≤ room <;> by_cases h2 : room ≤ 16 <;> by_cases h3 : (l.length : Int) ≤ room
  all_goals try (exfalso; omega)
  all_goals
    go_enter Try.func60, Try.ntmps60
    go_wp2_with (first | (go_at_call 88; refine (l6In_any _ _ _ _).mono ?_; rintro e w' ⟨rfl, rfl⟩) | (go_at_call 89; refine (l4Bytes_any _ l _ HV.out hl).mono ?_; rintro e w' ⟨rfl, rfl⟩))
    go_ret
    exact ⟨ret_b (by first | (simp [fifoB, h1, h2, h3]; done) | (simp [fifoB]; intros; omega)), HB.out⟩

set_option maxHeartbeats 400000 in
theorem sFifoTake_cons (room : Int) (v : Value) (x : Int) (l : List Int) (w : World) (hv : Ints w v (x :: l)) (hl : l.length < 1099511627776) (hok : fifoB room (x :: l) = true) :
    Calls Try.prog 18 #[.agg #[.int .i64 room, v]] w fun e w' => ∃ a c, e = .returned (.tuple #[.agg #[.int .i64 room, .slice a l.length c], .int .i64 x, .bool true]) ∧ Below w.heap.size w w' ∧ OwnI w' w.heap.size (.slice a l.length c) l := by
  obtain ⟨g, off, cap, rfl, hg, hcap, hcell⟩ := hv.cons
  have HV := hid hv
  clear hv
  have hx : ∀ w1, Below w.heap.size w w1 → w1.cell? ⟨g, off, none⟩ = some (.int .i64 x) := fun w1 h => (h.cell (p := ⟨g, off, none⟩) hg).trans hcell
  have HX := hid hx
  have HOK := hid hok
  clear hx hok hcell
  obtain ⟨a', ha, ha', hrun⟩ := slice_from1 g off l.length cap hcap (by omega)
  have HT : Hid (∀ w1, Ints w1 (.slice (some ⟨g, off, none⟩) (l.length + 1) cap) (x :: l) → Ints w1 (.slice a' l.length (cap - 1)) l) := fun w1 h => h.tail a' ha ha'
  clear ha ha'
  go_enter Try.func18, Try.ntmps18
  go_wp2_with fail
  refine (sFifoValid_any _ _ _ _ (HV.out.below (below_alloc2 _ _ _)) (by simp; omega)).mono ?_
  rintro e w1 ⟨rfl, hb1⟩
  rw [HOK.out]
  have HI := hid ((HV.out.below (below_alloc2 w _ _)).below hb1)
  obtain ⟨k0, k1, hz1, hB⟩ := entry2 hb1
  have hx := HX.out _ hB
  obtain ⟨c0, f0⟩ := blk k0; replace k0 := hid k0
  obtain ⟨c1, f1⟩ := blk k1; replace k1 := hid k1
  replace hB := hid hB
  clear hb1
  go_wp2_with fail
  refine wp_region_E (fun b => b ≠ w.heap.size + 1) (.op 0 0 (.op 1 0 (.op 3 0 (.op 4 0 (.op 5 0 (.op 8 0 (.op 9 0 (.op 10 0 (.op 11 0 (.op 2 1 (.op 6 1 (.op 7 0 (.op 12 1 (.op 13 2 (.op 14 2 (.nil)))))))))))))))) (by kernel_rfl) rfl (by kernel_rfl) (by kernel_rfl) (by kernel_rfl) (fun _ _ d _ _ h => by cases d <;> exact h) ?_
  go_wp2_with (first
    | (refine wpE_soft (by rfl) (by rfl) (by rfl) (by rfl) ?_; intro K hK)
    | (refine wpE_field (by rfl) (by rfl) (by rfl) (by kernel_rfl) ?_; intro K hK)
    | (refine wpE_conv (k := .i64) (by rfl) (by rfl) (by rfl) (by rfl) (by kernel_rfl) ?_; intro K hK)
    | (refine wpE_load (by rfl) (by rfl) (by rfl) (by rfl) (by first | trivial | (simp; done) | (simp; omega) | omega) (by first | (simp [*]; done) | go_simp) ?_; intro K hK)
    | (refine wpE_late (by rfl) (by rfl) ?_; intro K hK)
    | (refine wpE_skip (by rfl) (by rfl) ?_)
    | (refine wpE_nil ?_))
  refine wpE_eff (by rfl) (by rfl) ?_; intro K hK; go_wp2_with fail; refine ⟨(by first | exact Ex.alloc _ _ _ | exact (Ex.alloc _ _ _).drew), ?_⟩
  refine wpE_eff (by rfl) (by rfl) ?_; intro K hK
  refine wp_copy_ints (.tmp 17) (.tmp 20) rfl w1.heap.size (.slice (some ⟨w1.heap.size, 0, none⟩) 0 0) rfl (Bare.lit (by omega) (look_new rfl)) _ l rfl (Ints.below (HT.out _ HI.out) (by repeat (first | exact Below.refl _ _ | assumption | exact Hid.out (by assumption) | refine Below.drew ?_ | refine below_drewN ?_ _ | refine Below.alloc ?_ (by first | omega | (simp; done) | (simp; omega)) _ | refine Below.setCell ?_ (by first | omega | (simp; done) | (simp; omega)) _))) (by omega) (by first | omega | (simp; done) | (simp; omega)) ?_
  intro a2 c2 w2 hown hb2
  refine hK _ _ ⟨Ex.below hb2, ?_⟩
  replace k0 := look_below hb2 (by first | omega | (simp; done) | (simp; omega)) (look_old k0.out)
  replace k1 := look_below hb2 (by first | omega | (simp; done) | (simp; omega)) (look_old k1.out)
  obtain ⟨c0, f0⟩ := blk k0; replace k0 := hid k0
  obtain ⟨c1, f1⟩ := blk k1; replace k1 := hid k1
  have HB2 := hid (below_of (by repeat (first | exact Below.refl _ _ | assumption | exact Hid.out (by assumption) | refine Below.drew ?_ | refine below_drewN ?_ _ | refine Below.alloc ?_ (by first | omega | (simp; done) | (simp; omega)) _ | refine Below.setCell ?_ (by first | omega | (simp; done) | (simp; omega)) _)) hb2 : Below w.heap.size w w2)
  clear hb2 hx
  replace hown := hid hown
  go_wp2_with (first
    | (refine wpE_soft (by rfl) (by rfl) (by rfl) (by rfl) ?_; intro K hK)
    | (refine wpE_field (by rfl) (by rfl) (by rfl) (by kernel_rfl) ?_; intro K hK)
    | (refine wpE_conv (k := .i64) (by rfl) (by rfl) (by rfl) (by rfl) (by kernel_rfl) ?_; intro K hK)
    | (refine wpE_load (by rfl) (by rfl) (by rfl) (by rfl) (by first | trivial | (simp; done) | (simp; omega) | omega) (by first | (simp [*]; done) | go_simp) ?_; intro K hK)
    | (refine wpE_late (by rfl) (by rfl) ?_; intro K hK)
    | (refine wpE_skip (by rfl) (by rfl) ?_)
    | (refine wpE_nil ?_))
  refine wpE_eff (by rfl) (by rfl) ?_; intro K hK; go_wp2_with fail; refine ⟨(by repeat (first | exact Ex.refl _ _ | refine Ex.setTrans _ _ (by simp) ?_)), ?_⟩
  go_wp2_with (first
    | (refine wpE_soft (by rfl) (by rfl) (by rfl) (by rfl) ?_; intro K hK)
    | (refine wpE_field (by rfl) (by rfl) (by rfl) (by kernel_rfl) ?_; intro K hK)
    | (refine wpE_conv (k := .i64) (by rfl) (by rfl) (by rfl) (by rfl) (by kernel_rfl) ?_; intro K hK)
    | (refine wpE_load (by rfl) (by rfl) (by rfl) (by rfl) (by first | trivial | (simp; done) | (simp; omega) | omega) (by first | (simp [*]; done) | go_simp) ?_; intro K hK)
    | (refine wpE_late (by rfl) (by rfl) ?_; intro K hK)
    | (refine wpE_skip (by rfl) (by rfl) ?_)
    | (refine wpE_nil ?_))
  exact bodyPost_ret (v := .tuple #[.agg #[.int .i64 room, .slice a2 l.length c2], .int .i64 x, .bool true]) (by simp [results, Try.results18, go_sem, c1]) rfl ⟨_, _, rfl, (by repeat (first | exact Below.refl _ _ | assumption | exact Hid.out (by assumption) | refine Below.drew ?_ | refine below_drewN ?_ _ | refine Below.alloc ?_ (by first | omega | (simp; done) | (simp; omega)) _ | refine Below.setCell ?_ (by first | omega | (simp; done) | (simp; omega)) _)), OwnI.base (OwnI.set (OwnI.set hown.out (by simp; omega) _) (by simp; omega) _) (by omega)⟩

end Go.Proofs.Ytednhgiabpgleaa
