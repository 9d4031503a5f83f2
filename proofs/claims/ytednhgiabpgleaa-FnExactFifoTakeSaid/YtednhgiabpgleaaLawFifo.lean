/-
  The walk of the law FnFifoTake.
-/
import Derived.Test.YtednhgiabpgleaaDrawF
import Derived.Test.YtednhgiabpgleaaFifoC
import Derived.Test.YtednhgiabpgleaaSame
namespace Go.Proofs.Ytednhgiabpgleaa
open Go.RowKit

/-- FifoTake: the room, the bytes, the byte taken, whether there was one. -/
def takeM (room : Int) (l : List Int) : Int × List Int × Int × Bool :=
  match fifoB room l, l with
  | true, x :: l => (room, l, x, true)
  | _, _ => (0, [], 0, false)

theorem takeM_cases (room : Int) (l : List Int) : takeM room l = (0, [], 0, false) ∨ ∃ x m, l = x :: m ∧ fifoB room l = true ∧ takeM room l = (room, m, x, true) := by
  unfold takeM
  cases h : fifoB room l <;> cases l
  · exact .inl rfl
  · exact .inl rfl
  · exact .inl rfl
  · exact .inr ⟨_, _, rfl, rfl, rfl⟩

theorem FifoTake_any (room : Int) (v : Value) (l : List Int) (w : World) (hv : Ints w v l) (hl : l.length ≤ 1099511627776) :
    Calls Try.prog 17 #[.agg #[.int .i64 room, v]] w fun e w' => ∃ r m x ok a c, takeM room l = (r, m, x, ok) ∧ e = .returned (.tuple #[.agg #[.int .i64 r, .slice a m.length c], .int .i64 x, .bool ok]) ∧ Below w.heap.size w w' ∧ OwnI w' w.heap.size (.slice a m.length c) m := by
  cases h : fifoB room l with
  | false =>
    refine (FifoTake_bad room v l w hv hl h).mono ?_
    rintro e w' ⟨rfl, hb⟩
    exact ⟨_, [], _, _, none, 0, by simp only [takeM, h], rfl, hb, OwnI.nil _ _⟩
  | true =>
    cases l with
    | nil =>
      refine (FifoTake_nil room v w hv h).mono ?_
      rintro e w' ⟨rfl, hb⟩
      exact ⟨_, [], _, _, none, 0, by simp only [takeM, h], rfl, hb, OwnI.nil _ _⟩
    | cons x m =>
      refine (FifoTake_some room v x m w hv h).mono ?_
      rintro e w' ⟨a, c, rfl, hb, ho⟩
      exact ⟨_, m, _, _, a, c, by simp only [takeM, h], rfl, hb, ho⟩

theorem sFifoTake_any (room : Int) (v : Value) (l : List Int) (w : World) (hv : Ints w v l) (hl : l.length < 1099511627776) :
    Calls Try.prog 18 #[.agg #[.int .i64 room, v]] w fun e w' => ∃ r m x ok a c, takeM room l = (r, m, x, ok) ∧ e = .returned (.tuple #[.agg #[.int .i64 r, .slice a m.length c], .int .i64 x, .bool ok]) ∧ Below w.heap.size w w' ∧ OwnI w' w.heap.size (.slice a m.length c) m := by
  cases h : fifoB room l with
  | false =>
    refine (sFifoTake_bad room v l w hv (by omega) h).mono ?_
    rintro e w' ⟨rfl, hb⟩
    exact ⟨_, [], _, _, none, 0, by simp only [takeM, h], rfl, hb, OwnI.nil _ _⟩
  | true =>
    cases l with
    | nil =>
      refine (sFifoTake_nil room v w hv h).mono ?_
      rintro e w' ⟨rfl, hb⟩
      exact ⟨_, [], _, _, none, 0, by simp only [takeM, h], rfl, hb, OwnI.nil _ _⟩
    | cons x m =>
      refine (sFifoTake_cons room v x m w hv (by simp at hl; omega) h).mono ?_
      rintro e w' ⟨a, c, rfl, hb, ho⟩
      exact ⟨_, m, _, _, a, c, by simp only [takeM, h], rfl, hb, ho⟩

theorem takeM_len (room : Int) (l : List Int) {r : Int} {m : List Int} {x : Int} {ok : Bool} (h : takeM room l = (r, m, x, ok)) : m.length ≤ l.length := by
  rcases takeM_cases room l with h1 | ⟨y, n, rfl, _, h1⟩ <;> rw [h1] at h <;> simp only [Prod.mk.injEq] at h <;> obtain ⟨_, rfl, _⟩ := h <;> simp

theorem fifoB_tail {room x : Int} {l : List Int} (h : fifoB room (x :: l) = true) : fifoB room l = true := by
  simp only [fifoB, allB, List.all_cons, List.length_cons, Bool.and_eq_true, decide_eq_true_eq] at h ⊢
  obtain ⟨⟨⟨h1, h2⟩, h3⟩, h4, h5⟩ := h
  exact ⟨⟨⟨h1, h2⟩, by omega⟩, h5⟩

set_option maxHeartbeats 1600000 in
theorem FnFifoTake_any (v : Value) (w : World) (h : Code w v) :
    Calls Try.prog 3 #[v] w fun e w' => e = .returned (.bool true) ∧ Below w.heap.size w w' := by
  obtain ⟨a, n, cap, hv, hc, hr⟩ := h
  have HC := hid (show Code w v from ⟨a, n, cap, hv, hc, hr⟩)
  clear hr
  by_cases hbig : 1048576 < n
  · subst hv
    go_enter Try.func3, Try.ntmps3
    go_wp2
    go_ret
    exact ⟨rfl, Below.refl _ _⟩
  · have hsmall : ∃ a n cap, v = .slice a n cap ∧ n ≤ 1048576 := ⟨a, n, cap, hv, by omega⟩
    subst hv
    go_enter Try.func3, Try.ntmps3
    go_wp2_with fail
    refine (DrawFifoTake_any _ _ HC.out hsmall).mono ?_
    rintro e w1 ⟨room, a1, _, c1, l, rfl, rfl, hown, hn20, hB⟩
    have HI := hid hown.ints
    have hz := hB.size
    replace hB := hid hB
    clear hown hsmall HC
    go_wp2_with fail
    refine (FifoTake_any room _ l _ (HI.out.below (below_alloc _ _)) (by omega)).mono ?_
    rintro e w2 ⟨r, m, x, ok, a2, c2, hM, rfl, hb2, hown2⟩
    obtain ⟨k3, hz2, hb⟩ := entry1 hb2
    replace HI := hid (HI.out.below hb)
    have HJ := hid hown2.ints
    replace hB := hid (below_of hB.out hb)
    replace k3 := hid k3
    clear hb hb2 hown2
    obtain ⟨c3, f3⟩ := blk k3.out; have z3 := (Array.getElem?_eq_some_iff.1 k3.out).1
    go_wp2_with fail
    refine (sFifoTake_any room _ l _ (HI.out.below (below_alloc _ _)) (by omega)).mono ?_
    rintro e w3 ⟨r', m', x', ok', a3, d3, hM', rfl, hb3, hown3⟩
    rw [hM] at hM'
    simp only [Prod.mk.injEq] at hM'
    obtain ⟨rfl, rfl, rfl, rfl⟩ := hM'
    obtain ⟨k4, hz3, hb⟩ := entry1 hb3
    replace HI := hid (HI.out.below hb)
    replace HJ := hid (HJ.out.below hb)
    have HL := hid hown3.ints
    replace hB := hid (below_of hB.out hb)
    replace k3 := hid (look_below hb (by omega) k3.out)
    replace k4 := hid k4
    clear hb hb3 hown3 c3 f3 z3
    have hm := takeM_len _ _ hM
    obtain ⟨c3, f3⟩ := blk k3.out; have z3 := (Array.getElem?_eq_some_iff.1 k3.out).1
    obtain ⟨c4, f4⟩ := blk k4.out; have z4 := (Array.getElem?_eq_some_iff.1 k4.out).1
    go_wp2_with fail
    refine (sameFifo_any r r _ _ m m _ (HJ.out.below (below_alloc _ _)) (HL.out.below (below_alloc _ _)) (by omega)).mono ?_
    rintro e w4 ⟨rfl, hb4⟩
    obtain ⟨k5, hz4, hb⟩ := entry1 hb4
    replace HI := hid (HI.out.below hb)
    replace HJ := hid (HJ.out.below hb)
    replace HL := hid (HL.out.below hb)
    replace hB := hid (below_of hB.out hb)
    replace k3 := hid (look_below hb (by omega) k3.out)
    replace k4 := hid (look_below hb (by omega) k4.out)
    replace k5 := hid k5
    clear hb hb4 c3 f3 z3 c4 f4 z4
    obtain ⟨c3, f3⟩ := blk k3.out; have z3 := (Array.getElem?_eq_some_iff.1 k3.out).1
    obtain ⟨c4, f4⟩ := blk k4.out; have z4 := (Array.getElem?_eq_some_iff.1 k4.out).1
    obtain ⟨c5, f5⟩ := blk k5.out; have z5 := (Array.getElem?_eq_some_iff.1 k5.out).1
    simp only [decide_true, Bool.and_self]
    rcases takeM_cases room l with h1 | ⟨y, n', rfl, hok, h1⟩
    all_goals
      rw [h1] at hM
      simp only [Prod.mk.injEq] at hM
      obtain ⟨rfl, rfl, rfl, rfl⟩ := hM
    · go_wp2_with fail
      refine (sameFifo_any 0 0 _ _ [] [] _ HJ.out HL.out (by simp)).mono ?_
      rintro e w5 ⟨rfl, hb⟩
      replace hB := hid (below_of hB.out hb)
      go_wp2_with fail
      go_ret
      exact ⟨rfl, hB.out⟩
    · have hvalid : fifoB room n' = true := fifoB_tail hok
      obtain ⟨g, off, cap', he, hg, hcap, hcell⟩ := HI.out.cons
      simp only [Value.slice.injEq, List.length_cons, true_and] at he
      obtain ⟨rfl, rfl⟩ := he
      obtain ⟨a', ha, ha', hrun⟩ := slice_from1 g off n'.length c1 hcap (by simp at hn20; omega)
      have HT := hid (HI.out.tail a' ha ha')
      simp only [List.length_cons] at hn20
      have HX := hid hcell
      clear ha ha' hcell HI
      go_wp2_with fail
      refine wp_region_E (fun _ => True) (.op 0 0 (.op 1 1 (.op 2 0 (.op 3 0 (.op 4 0 (.op 5 0 (.op 6 0 (.op 7 0 (.op 8 0 (.op 9 0 (.op 10 0 (.op 11 0 (.op 12 0 (.op 13 0 (.op 14 0 (.op 15 0 (.op 16 1 (.op 17 0 (.op 18 2 (.nil)))))))))))))))))))) (by kernel_rfl) rfl (by kernel_rfl) (by kernel_rfl) (by kernel_rfl) (fun _ _ d _ _ h => by cases d <;> exact h) ?_
      go_wp2_with (first
    | (refine wpE_soft (by rfl) (by rfl) (by rfl) (by rfl) ?_; intro K hK)
    | (refine wpE_field (by rfl) (by rfl) (by rfl) (by kernel_rfl) ?_; intro K hK)
    | (refine wpE_conv (k := .i64) (by rfl) (by rfl) (by rfl) (by rfl) (by kernel_rfl) ?_; intro K hK)
    | (refine wpE_load (by rfl) (by rfl) (by rfl) (by rfl) (by first | trivial | (simp; done) | (simp; omega) | omega) (by first | (simp [*]; done) | go_simp) ?_; intro K hK)
    | (refine wpE_late (by rfl) (by rfl) ?_; intro K hK)
    | (refine wpE_skip (by rfl) (by rfl) ?_)
    | (refine wpE_nil ?_))
      refine wpE_eff (by rfl) (by rfl) ?_; intro K hK
      go_wp2_with fail
      refine (FifoValid_any room _ n' _ (HJ.out.below (by exact below_drewN (Below.refl _ _) 1)) (by omega)).mono ?_
      rintro e w5 ⟨rfl, hb⟩
      rw [hvalid]
      go_wp2_with fail
      refine ⟨Ex.below hb, ?_⟩
      have hb' := below_undrew hb
      have hcell := (hb'.cell (p := ⟨g, off, none⟩) hg).trans HX.out
      replace k3 := hid (look_below hb' (by omega) k3.out)
      replace k4 := hid (look_below hb' (by omega) k4.out)
      clear c3 f3 z3 c4 f4 z4 hb c5 f5 z5
      obtain ⟨c3, f3⟩ := blk k3.out; have z3 := (Array.getElem?_eq_some_iff.1 k3.out).1
      obtain ⟨c4, f4⟩ := blk k4.out; have z4 := (Array.getElem?_eq_some_iff.1 k4.out).1
      replace HJ := hid (HJ.out.below hb')
      replace HT := hid (HT.out.below hb')
      replace hB := hid (below_of hB.out hb')
      clear hb'
      go_wp2_with (first
    | (refine wpE_soft (by rfl) (by rfl) (by rfl) (by rfl) ?_; intro K hK)
    | (refine wpE_field (by rfl) (by rfl) (by rfl) (by kernel_rfl) ?_; intro K hK)
    | (refine wpE_conv (k := .i64) (by rfl) (by rfl) (by rfl) (by rfl) (by kernel_rfl) ?_; intro K hK)
    | (refine wpE_load (by rfl) (by rfl) (by rfl) (by rfl) (by first | trivial | (simp; done) | (simp; omega) | omega) (by first | (simp [*]; done) | go_simp) ?_; intro K hK)
    | (refine wpE_late (by rfl) (by rfl) ?_; intro K hK)
    | (refine wpE_skip (by rfl) (by rfl) ?_)
    | (refine wpE_nil ?_))
      refine wpE_eff (by rfl) (by rfl) ?_; intro K hK
      go_wp2_with fail
      refine (sameInts_any _ _ n' n' _ HJ.out HT.out (by omega)).mono ?_
      rintro e w6 ⟨n6, rfl, rfl⟩
      go_wp2_with fail
      refine ⟨Ex.below (below_drewN (Below.refl _ _) _), ?_⟩
      go_wp2_with (first
    | (refine wpE_soft (by rfl) (by rfl) (by rfl) (by rfl) ?_; intro K hK)
    | (refine wpE_field (by rfl) (by rfl) (by rfl) (by kernel_rfl) ?_; intro K hK)
    | (refine wpE_conv (k := .i64) (by rfl) (by rfl) (by rfl) (by rfl) (by kernel_rfl) ?_; intro K hK)
    | (refine wpE_load (by rfl) (by rfl) (by rfl) (by rfl) (by first | trivial | (simp; done) | (simp; omega) | omega) (by first | (simp [*]; done) | go_simp) ?_; intro K hK)
    | (refine wpE_late (by rfl) (by rfl) ?_; intro K hK)
    | (refine wpE_skip (by rfl) (by rfl) ?_)
    | (refine wpE_nil ?_))
      go_ret
      exact ⟨rfl, below_drewN hB.out _⟩

end Go.Proofs.Ytednhgiabpgleaa
