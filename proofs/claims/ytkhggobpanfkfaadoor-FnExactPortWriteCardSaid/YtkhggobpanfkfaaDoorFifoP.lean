/-
  FifoPut of the program.
-/
import Derived.Test.YtkhggobpanfkfaaDoorFifoC
namespace Go.Proofs.YtkhggobpanfkfaaDoor
open Go.RowKit

/-- FifoPut: the room, the bytes, whether there was room. -/
def putM (room : Int) (l : List Int) (b : Int) : Int × List Int × Bool :=
  if fifoB room l && byteB b && decide ((l.length : Int) < room) then (room, l ++ [b], true) else (0, [], false)

set_option maxHeartbeats 800000 in
theorem FifoPut_any (room : Int) (v : Value) (l : List Int) (b : Int) (w : World) (hv : Ints w v l) (hl : l.length ≤ 1099511627776) :
    Calls Tryd.prog 61 #[.agg #[.int .i64 room, v], .int .i64 b] w fun e w' => ∃ r m ok a c, putM room l b = (r, m, ok) ∧ e = .returned (.tuple #[.agg #[.int .i64 r, .slice a m.length c], .bool ok]) ∧ Below w.heap.size w w' ∧ OwnI w' w.heap.size (.slice a m.length c) m := by
  obtain ⟨a, cap, rfl, -⟩ := hv.form
  have HV := hid hv
  clear hv
  go_enter Tryd.func61, Tryd.ntmps61
  go_wp2_with fail
  refine (FifoValid_any _ _ _ _ (HV.out.below (below_alloc2 _ _ _)) hl).mono ?_
  rintro e w1 ⟨rfl, hb1⟩
  obtain ⟨k0, k1, hz1, hB⟩ := entry2 hb1
  have HI := hid (HV.out.below hB)
  replace k0 := hid k0
  replace k1 := hid k1
  replace hB := hid hB
  clear hb1
  cases hok : fifoB room l with
  | false =>
    obtain ⟨c1, f1⟩ := blk k1.out; have z1 := (Array.getElem?_eq_some_iff.1 k1.out).1
    go_wp2_with fail
    exact bodyPost_ret (v := .tuple #[.agg #[.int .i64 0, .slice none 0 0], .bool false]) (by simp [results, Tryd.results61, go_sem, c1]) rfl ⟨_, [], _, none, 0, by simp [putM, hok], rfl, (by repeat (first | (with_reducible exact Hid.out (by assumption)) | (with_reducible assumption) | (with_reducible exact Below.refl _ _) | (with_reducible refine Below.alloc ?_ (by first | omega | (simp; done) | (simp; omega)) _) | (with_reducible refine Below.setCell ?_ (by first | omega | (simp; done) | (simp; omega)) _) | (with_reducible refine Below.drew ?_) | (with_reducible refine below_drewN ?_ _) | exact Below.refl _ _ | assumption | exact Hid.out (by assumption))), OwnI.nil _ _⟩
  | true =>
    obtain ⟨n, rfl, h1, h2, h3, -⟩ := fifoB_room hok
    go_wp2_with fail
    refine (isByte_any b _).mono ?_
    rintro e w2 ⟨rfl, rfl⟩
    cases hbb : byteB b with
    | false =>
      obtain ⟨c1, f1⟩ := blk k1.out; have z1 := (Array.getElem?_eq_some_iff.1 k1.out).1
      go_wp2_with fail
      exact bodyPost_ret (v := .tuple #[.agg #[.int .i64 0, .slice none 0 0], .bool false]) (by simp [results, Tryd.results61, go_sem, c1]) rfl ⟨_, [], _, none, 0, by simp [putM, hbb], rfl, (by repeat (first | (with_reducible exact Hid.out (by assumption)) | (with_reducible assumption) | (with_reducible exact Below.refl _ _) | (with_reducible refine Below.alloc ?_ (by first | omega | (simp; done) | (simp; omega)) _) | (with_reducible refine Below.setCell ?_ (by first | omega | (simp; done) | (simp; omega)) _) | (with_reducible refine Below.drew ?_) | (with_reducible refine below_drewN ?_ _) | exact Below.refl _ _ | assumption | exact Hid.out (by assumption))), OwnI.nil _ _⟩
    | true =>
      obtain ⟨c0, f0⟩ := blk k0.out; have z0 := (Array.getElem?_eq_some_iff.1 k0.out).1
      go_wp2_with fail
      refine (ringOf_any n _ l _ HI.out h1 h2 h3).mono ?_
      rintro e w2 ⟨r, rfl, hr, hring, hb2⟩
      have HR := hid hring
      first | (replace k1 := hid (look_below hb2 (by first | omega | (simp; done) | (simp; omega)) k1.out)) | (replace k1 := hid (look_below hb2 (by first | omega | (simp; done) | (simp; omega)) (look_old k1.out)))
      replace hB := hid (below_of hB.out hb2)
      clear hring hb2 c0 f0 z0 k0
      by_cases hlt : l.length < n
      · have hM : putM n l b = ((n : Int), l ++ [b], true) := by simp [putM, hok, hbb]; omega
        have HM := hid hM
        clear hM
        go_wp2_with fail
        refine (put_room r n l b _ HR.out hlt).mono ?_
        rintro e w3 ⟨rfl, hring, hg⟩
        have HR := hid hring
        first | (replace k1 := hid (look_grown hg (by first | omega | (simp; done) | (simp; omega)) k1.out)) | (replace k1 := hid (look_grown hg (by first | omega | (simp; done) | (simp; omega)) (look_old k1.out)))
        replace hB := hid (below_of_grown hB.out hg (by have := hB.out.size; omega) (by omega))
        clear hring hg
        go_wp2_with fail
        refine (fifo_any r n (l ++ [b]) _ HR.out).mono ?_
        rintro e w4 ⟨a4, c4, rfl, hown, hb4⟩
        have hlt := (Array.getElem?_eq_some_iff.1 k1.out).1
        first | (replace k1 := hid (look_below hb4 (by first | omega | (simp; done) | (simp; omega)) k1.out)) | (replace k1 := hid (look_below hb4 (by first | omega | (simp; done) | (simp; omega)) (look_old k1.out)))
        replace hB := hid (below_of hB.out hb4)
        have HO := hid hown
        clear hown hb4
        obtain ⟨c1, f1⟩ := blk k1.out; have z1 := (Array.getElem?_eq_some_iff.1 k1.out).1
        go_wp2_with fail
        exact bodyPost_ret (v := .tuple #[.agg #[.int .i64 n, .slice a4 (l ++ [b]).length c4], .bool true]) (by simp [results, Tryd.results61, go_sem, c1]) rfl ⟨_, _, _, a4, c4, HM.out, rfl, (by repeat (first | (with_reducible exact Hid.out (by assumption)) | (with_reducible assumption) | (with_reducible exact Below.refl _ _) | (with_reducible refine Below.alloc ?_ (by first | omega | (simp; done) | (simp; omega)) _) | (with_reducible refine Below.setCell ?_ (by first | omega | (simp; done) | (simp; omega)) _) | (with_reducible refine Below.drew ?_) | (with_reducible refine below_drewN ?_ _) | exact Below.refl _ _ | assumption | exact Hid.out (by assumption))), OwnI.base (OwnI.set (OwnI.set HO.out (by simp; omega) _) (by simp; omega) _) (by omega)⟩
      · have hM : putM n l b = (0, [], false) := by simp [putM, hok, hbb]; omega
        have HM := hid hM
        clear hM
        go_wp2_with fail
        refine (put_full r n l b _ HR.out (by omega)).mono ?_
        rintro e w3 ⟨rfl, q, rfl⟩
        obtain ⟨c1, f1⟩ := blk k1.out; have z1 := (Array.getElem?_eq_some_iff.1 k1.out).1
        go_wp2_with fail
        exact bodyPost_ret (v := .tuple #[.agg #[.int .i64 0, .slice none 0 0], .bool false]) (by simp [results, Tryd.results61, go_sem, c1]) rfl ⟨_, [], _, none, 0, HM.out, rfl, (by repeat (first | (with_reducible exact Hid.out (by assumption)) | (with_reducible assumption) | (with_reducible exact Below.refl _ _) | (with_reducible refine Below.alloc ?_ (by first | omega | (simp; done) | (simp; omega)) _) | (with_reducible refine Below.setCell ?_ (by first | omega | (simp; done) | (simp; omega)) _) | (with_reducible refine Below.drew ?_) | (with_reducible refine below_drewN ?_ _) | exact Below.refl _ _ | assumption | exact Hid.out (by assumption))), OwnI.nil _ _⟩

end Go.Proofs.YtkhggobpanfkfaaDoor
