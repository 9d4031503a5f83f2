/-
  FifoTake, FifoPut of the program and of the reference: what they return.
-/
import Derived.Test.YtonibbcmgiflbaaRing
namespace Go.Proofs.Ytonibbcmgiflbaa
open Go.RowKit

theorem fifoB_room {room : Int} {l : List Int} (h : fifoB room l = true) : ∃ n : Nat, room = (n : Int) ∧ 1 ≤ n ∧ n ≤ 16 ∧ l.length ≤ n ∧ allB l = true := by
  simp only [fifoB, Bool.and_eq_true, decide_eq_true_eq] at h
  obtain ⟨⟨⟨h1, h2⟩, h3⟩, h4⟩ := h
  exact ⟨room.toNat, by omega, by omega, by omega, by omega, h4⟩

set_option maxHeartbeats 400000 in
theorem FifoTake_some (room : Int) (v : Value) (x : Int) (l : List Int) (w : World) (hv : Ints w v (x :: l)) (hok : fifoB room (x :: l) = true) :
    Calls Try.prog 51 #[.agg #[.int .i64 room, v]] w fun e w' => ∃ a c, e = .returned (.tuple #[.agg #[.int .i64 room, .slice a l.length c], .int .i64 x, .bool true]) ∧ Below w.heap.size w w' ∧ OwnI w' w.heap.size (.slice a l.length c) l := by
  have HOK := hid hok
  obtain ⟨n, rfl, h1, h2, h3, -⟩ := fifoB_room hok
  obtain ⟨a, cap, rfl, -⟩ := hv.form
  have HV := hid hv
  clear hv hok
  go_enter Try.func51, Try.ntmps51
  go_wp2_with fail
  refine (FifoValid_any _ _ _ _ (HV.out.below (below_alloc2 _ _ _)) (by omega)).mono ?_
  rintro e w1 ⟨rfl, hb1⟩
  rw [HOK.out]
  obtain ⟨k0, k1, hz1, hB⟩ := entry2 hb1
  have HI := hid (HV.out.below hB)
  obtain ⟨c0, f0⟩ := blk k0; replace k0 := hid k0
  replace k1 := hid k1
  replace hB := hid hB
  clear hb1
  go_wp2_with fail
  refine (ringOf_any n _ (x :: l) _ HI.out h1 h2 h3).mono ?_
  rintro e w2 ⟨r, rfl, hr, hring, hb2⟩
  have HR := hid hring
  first | (replace k1 := hid (look_below hb2 (by first | omega | (simp; done) | (simp; omega)) k1.out)) | (replace k1 := hid (look_below hb2 (by first | omega | (simp; done) | (simp; omega)) (look_old k1.out)))
  replace hB := hid (below_of hB.out hb2)
  clear hring hb2 c0 f0 k0
  go_wp2_with fail
  refine (take_cons r n x l _ HR.out).mono ?_
  rintro e w3 ⟨rfl, hring, hg⟩
  have HR := hid hring
  first | (replace k1 := hid (look_grown hg (by first | omega | (simp; done) | (simp; omega)) k1.out)) | (replace k1 := hid (look_grown hg (by first | omega | (simp; done) | (simp; omega)) (look_old k1.out)))
  replace hB := hid (below_of_grown hB.out hg (by have := hB.out.size; omega) (by omega))
  clear hring hg
  go_wp2_with fail
  refine (fifo_any r n l _ HR.out).mono ?_
  rintro e w4 ⟨a4, c4, rfl, hown, hb4⟩
  have hlt := (Array.getElem?_eq_some_iff.1 k1.out).1
  first | (replace k1 := hid (look_below hb4 (by first | omega | (simp; done) | (simp; omega)) k1.out)) | (replace k1 := hid (look_below hb4 (by first | omega | (simp; done) | (simp; omega)) (look_old k1.out)))
  replace hB := hid (below_of hB.out hb4)
  have HO := hid hown
  clear hown hb4
  obtain ⟨c1, f1⟩ := blk k1.out; have z1 := (Array.getElem?_eq_some_iff.1 k1.out).1
  go_wp2
  exact bodyPost_ret (v := .tuple #[.agg #[.int .i64 n, .slice a4 l.length c4], .int .i64 x, .bool true]) (by simp [results, Try.results51, go_sem, c1]) rfl ⟨_, _, rfl, (by repeat (first | (with_reducible exact Hid.out (by assumption)) | (with_reducible assumption) | (with_reducible exact Below.refl _ _) | (with_reducible refine Below.alloc ?_ (by first | omega | (simp; done) | (simp; omega)) _) | (with_reducible refine Below.setCell ?_ (by first | omega | (simp; done) | (simp; omega)) _) | (with_reducible refine Below.drew ?_) | (with_reducible refine below_drewN ?_ _) | exact Below.refl _ _ | assumption | exact Hid.out (by assumption))), OwnI.base (OwnI.set (OwnI.set HO.out (by simp; omega) _) (by simp; omega) _) (by omega)⟩

set_option maxHeartbeats 400000 in
theorem FifoTake_bad (room : Int) (v : Value) (l : List Int) (w : World) (hv : Ints w v l) (hl : l.length ≤ 1099511627776) (hok : fifoB room l = false) :
    Calls Try.prog 51 #[.agg #[.int .i64 room, v]] w fun e w' => e = .returned (.tuple #[.agg #[.int .i64 0, .slice none 0 0], .int .i64 0, .bool false]) ∧ Below w.heap.size w w' := by
  have HOK := hid hok
  obtain ⟨a, cap, rfl, -⟩ := hv.form
  have HV := hid hv
  clear hv hok
  go_enter Try.func51, Try.ntmps51
  go_wp2_with fail
  refine (FifoValid_any _ _ _ _ (HV.out.below (below_alloc2 _ _ _)) hl).mono ?_
  rintro e w1 ⟨rfl, hb1⟩
  rw [HOK.out]
  obtain ⟨k0, k1, hz1, hB⟩ := entry2 hb1
  obtain ⟨c1, f1⟩ := blk k1; replace k1 := hid k1
  replace hB := hid hB
  clear hb1
  go_wp2
  exact bodyPost_ret (v := .tuple #[.agg #[.int .i64 0, .slice none 0 0], .int .i64 0, .bool false]) (by simp [results, Try.results51, go_sem, c1]) rfl ⟨rfl, (by repeat (first | (with_reducible exact Hid.out (by assumption)) | (with_reducible assumption) | (with_reducible exact Below.refl _ _) | (with_reducible refine Below.alloc ?_ (by first | omega | (simp; done) | (simp; omega)) _) | (with_reducible refine Below.setCell ?_ (by first | omega | (simp; done) | (simp; omega)) _) | (with_reducible refine Below.drew ?_) | (with_reducible refine below_drewN ?_ _) | exact Below.refl _ _ | assumption | exact Hid.out (by assumption)))⟩

set_option maxHeartbeats 400000 in
theorem FifoTake_nil (room : Int) (v : Value) (w : World) (hv : Ints w v []) (hok : fifoB room [] = true) :
    Calls Try.prog 51 #[.agg #[.int .i64 room, v]] w fun e w' => e = .returned (.tuple #[.agg #[.int .i64 0, .slice none 0 0], .int .i64 0, .bool false]) ∧ Below w.heap.size w w' := by
  have HOK := hid hok
  obtain ⟨n, rfl, h1, h2, h3, -⟩ := fifoB_room hok
  obtain ⟨a, cap, rfl⟩ := hv.nil
  have HV := hid hv
  clear hv hok
  go_enter Try.func51, Try.ntmps51
  go_wp2_with fail
  refine (FifoValid_any _ _ [] _ (HV.out.below (below_alloc2 _ _ _)) (by simp)).mono ?_
  rintro e w1 ⟨rfl, hb1⟩
  rw [HOK.out]
  obtain ⟨k0, k1, hz1, hB⟩ := entry2 hb1
  have HI := hid (HV.out.below hB)
  obtain ⟨c0, f0⟩ := blk k0; replace k0 := hid k0
  replace k1 := hid k1
  replace hB := hid hB
  clear hb1
  go_wp2_with fail
  refine (ringOf_any n _ [] _ HI.out h1 h2 h3).mono ?_
  rintro e w2 ⟨r, rfl, hr, hring, hb2⟩
  have HR := hid hring
  first | (replace k1 := hid (look_below hb2 (by first | omega | (simp; done) | (simp; omega)) k1.out)) | (replace k1 := hid (look_below hb2 (by first | omega | (simp; done) | (simp; omega)) (look_old k1.out)))
  replace hB := hid (below_of hB.out hb2)
  clear hring hb2 c0 f0 k0
  go_wp2_with fail
  refine (take_nil r n _ HR.out).mono ?_
  rintro e w3 ⟨rfl, rfl⟩
  obtain ⟨c1, f1⟩ := blk k1.out; have z1 := (Array.getElem?_eq_some_iff.1 k1.out).1
  go_wp2
  exact bodyPost_ret (v := .tuple #[.agg #[.int .i64 0, .slice none 0 0], .int .i64 0, .bool false]) (by simp [results, Try.results51, go_sem, c1]) rfl ⟨rfl, (by repeat (first | (with_reducible exact Hid.out (by assumption)) | (with_reducible assumption) | (with_reducible exact Below.refl _ _) | (with_reducible refine Below.alloc ?_ (by first | omega | (simp; done) | (simp; omega)) _) | (with_reducible refine Below.setCell ?_ (by first | omega | (simp; done) | (simp; omega)) _) | (with_reducible refine Below.drew ?_) | (with_reducible refine below_drewN ?_ _) | exact Below.refl _ _ | assumption | exact Hid.out (by assumption)))⟩

end Go.Proofs.Ytonibbcmgiflbaa
