/-
  Queues in the laws of exactness: szFifo, toFifo, eqFifo, markFifo, heldFifo.
-/
import Derived.Test.YtednhgiabpgleaaExInts
namespace Go.Proofs.Ytednhgiabpgleaa
open Go.RowKit

theorem szFifo_any (room : Int) (a : Option Addr) (n cap : Nat) (left : Int) (w : World) (h0 : 0 ≤ left) (h1 : left ≤ 1048576) (hn : n ≤ 9223372036854775807) :
    Calls Try.prog 23 #[.agg #[.int .i64 room, .slice a n cap], .int .i64 left] w fun e w' => e = .returned (.int .i64 (if left < n then -1 else left - n)) ∧ Below w.heap.size w w' := by
  have HB := hid (below_alloc w (.cells #[.int .i64 room, .slice a n cap] 35))
  go_enter Try.func23, Try.ntmps23
  go_wp2_with fail
  refine (szIntS_any a n cap left _ h0 h1 hn).mono ?_
  rintro e w1 ⟨rfl, rfl⟩
  by_cases h : left < n
  · rw [if_pos h]
    go_wp2_with fail
    go_ret
    exact ⟨rfl, HB.out⟩
  · rw [if_neg h]
    go_wp2_with fail
    go_ret
    exact ⟨rfl, HB.out⟩

theorem eqFifo_any (r1 r2 : Int) (v u : Value) (l m : List Int) (w : World) (hv : Ints w v l) (hu : Ints w u m) (hl : l.length ≤ 1099511627776) :
    Calls Try.prog 25 #[.agg #[.int .i64 r1, v], .agg #[.int .i64 r2, u]] w fun e w' => e = .returned (.bool (decide (r1 = r2) && decide (l = m))) ∧ Below w.heap.size w w' := by
  have hb := below_alloc2 w (.cells #[.int .i64 r1, v] 25) (.cells #[.int .i64 r2, u] 25)
  have HV := hid (hv.below hb)
  have HU := hid (hu.below hb)
  obtain ⟨a, cap, rfl, _⟩ := hv.form
  obtain ⟨b, cap', rfl, _⟩ := hu.form
  have HB := hid hb
  clear hb hv hu
  by_cases h1 : r1 = r2
  · subst h1
    go_enter Try.func25, Try.ntmps25
    go_wp2_with fail
    refine (eqIntS_any _ _ l m _ HV.out HU.out hl).mono ?_
    rintro e w1 ⟨n, rfl, rfl⟩
    obtain ⟨d, hd⟩ : ∃ d, decide (l = m) = d := ⟨_, rfl⟩
    rw [hd]
    have HD := hid hd
    clear hd
    cases d
    all_goals
      go_wp2_with fail
      go_ret
      exact ⟨ret_b (by rw [HD.out, decide_true]; rfl), below_drewN HB.out n⟩
  · have h1' : (r1 == r2) = false := by simpa using h1
    go_enter Try.func25, Try.ntmps25
    go_wp2_with fail
    go_ret
    exact ⟨ret_b (by simp [h1]), HB.out⟩

theorem below_alloc3 (w : World) (o o' o'' : Obj) : Below w.heap.size w (((w.alloc o).alloc o').alloc o'') := (below_alloc2 w o o').alloc (by simp; omega) o''

theorem toFifo_any (room : Int) (v : Value) (l : List Int) (w : World) (hv : ReadI w v l) (hl : l.length ≤ 1099511627776) :
    Calls Try.prog 24 #[.agg #[.int .i64 room, v]] w fun e w' => ∃ a c, e = .returned (.agg #[.int .i64 room, .slice a l.length c]) ∧ OwnI w' w.heap.size (.slice a l.length c) l ∧ Below w.heap.size w w' := by
  have HV := hid hv
  obtain ⟨a, cap, rfl, -⟩ := hv
  go_enter Try.func24, Try.ntmps24
  go_wp2_with fail
  refine (toIntS_any _ l _ (HV.out.below (below_alloc3 _ _ _ _)) hl).mono ?_
  rintro e w1 ⟨a1, c1', rfl, hown, hb1⟩
  obtain ⟨k0, k1, k2, hz1, hB⟩ := entry3 hb1
  replace k1 := hid k1
  replace k2 := hid k2
  replace hB := hid hB
  replace hown := hid (OwnI.base (base' := w.heap.size + 3) hown (by simp))
  clear hb1 k0
  obtain ⟨c1, f1⟩ := blk k1.out; have z1 := (Array.getElem?_eq_some_iff.1 k1.out).1
  obtain ⟨c2, f2⟩ := blk k2.out; have z2 := (Array.getElem?_eq_some_iff.1 k2.out).1
  go_wp2_with fail
  exact bodyPost_ret (v := .agg #[.int .i64 room, .slice a1 l.length c1']) (by simp [results, Try.results24, go_sem, c1]) rfl ⟨_, _, rfl, OwnI.base (OwnI.set (OwnI.set (OwnI.set hown.out (by first | omega | (simp; done) | (simp; omega)) _) (by first | omega | (simp; done) | (simp; omega)) _) (by first | omega | (simp; done) | (simp; omega)) _) (by omega), (by repeat (first | exact Below.refl _ _ | assumption | exact Hid.out (by assumption) | refine Below.drew ?_ | refine below_drewN ?_ _ | refine Below.alloc ?_ (by first | omega | (simp; done) | (simp; omega)) _ | refine Below.setCell ?_ (by first | omega | (simp; done) | (simp; omega)) _))⟩

theorem markFifo_any (room : Int) (v : Value) (l : List Int) (q : Int) (base : Nat) (w : World) (hv : OwnI w base v l) (hl : l.length ≤ 1099511627776) (h0 : 0 ≤ q) (h1 : q ≤ 1099511627776) :
    Calls Try.prog 26 #[.agg #[.int .i64 room, v], .int .i64 q] w fun e w' => e = .returned (.int .i64 (q + l.length)) ∧ OwnI w' base v (markL q l.length) ∧ w.grownBy w' v.ownBlock := by
  obtain ⟨a, cap, rfl⟩ := hv.form
  have HV := hid hv
  clear hv
  go_enter Try.func26, Try.ntmps26
  go_wp2_with fail
  refine (markIntS_any _ l q base _ (HV.out.alloc _) hl h0 h1).mono ?_
  rintro e w1 ⟨rfl, hown, hg⟩
  have hown := hid hown
  have hg := hid (grown_trans (grown_of_below (below_alloc w _) _) hg)
  go_wp2_with fail
  go_ret
  exact ⟨rfl, hown.out, hg.out⟩

theorem heldFifo_any (room : Int) (v : Value) (n : Nat) (q : Int) (w : World) (hv : Ints w v (markL q n)) (hn : n ≤ 1099511627776) (h0 : 0 ≤ q) (h1 : q ≤ 1099511627776) :
    Calls Try.prog 27 #[.agg #[.int .i64 room, v], .int .i64 q] w fun e w' => e = .returned (.int .i64 (q + n)) ∧ Below w.heap.size w w' := by
  obtain ⟨a, cap, rfl, -⟩ := hv.form
  have HV := hid hv
  clear hv
  go_enter Try.func27, Try.ntmps27
  go_wp2_with fail
  refine (heldIntS_any _ n q _ (HV.out.below (below_alloc _ _)) hn h0 h1).mono ?_
  rintro e w1 ⟨rfl, rfl⟩
  go_wp2_with fail
  go_ret
  exact ⟨rfl, below_alloc _ _⟩

end Go.Proofs.Ytednhgiabpgleaa
