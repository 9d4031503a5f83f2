/-
  FormatOf of the program, by hand: the second part.
-/
import Derived.Test.YtkhggobpanfkfaaDoorF2
namespace Go.Proofs.YtkhggobpanfkfaaDoor
open Go.RowKit Go.Stop

set_option maxRecDepth 100000 in
set_option maxHeartbeats 2000000 in
/-- FormatOf, of a control byte of no format. -/
theorem FormatOf_no (b : Int) (a : Addr) (w : World) (hw : w.cell? ⟨0, 0, none⟩ = some (.iface 187 (.pointer (some a)))) (hb : (b < 0 ∨ 31 < b) ∨ (16 ≤ b ∧ b ≤ 23)) :
    Calls Tryd.prog 28 #[.int .i64 b] w fun e w' => e = .returned (.tuple #[.agg #[.int .i64 0, .int .i64 0, .int .i64 0], .bool false]) ∧ Below w.heap.size w w' := by
  have h0 : 0 < w.heap.size := by
    simp only [World.cell?] at hw
    cases h : w.heap[0]? with
    | none => simp [h] at hw
    | some o => exact (Array.getElem?_eq_some_iff.1 h).1
  have key : ∀ w1, w1.cell? ⟨0, 0, none⟩ = some (.iface 187 (.pointer (some a))) → Calls Tryd.prog 63 #[.int .i64 b] w1 fun e w' => e = .returned (.tuple #[.agg #[.int .i64 0, .int .i64 0, .int .i64 0], .iface 187 (.pointer (some a))]) ∧ Below w1.heap.size w1 w' := fun w1 h => by
    rcases hb with hb | hb
    · exact formatFrom_out b a w1 h hb
    · exact formatFrom_mid b a w1 h hb
  go_enter Tryd.func28, Tryd.ntmps28
  go_wp2_with fail
  refine (key _ ?_).mono ?_
  · exact cell?_alloc_old _ hw
  rintro e w1 ⟨rfl, hb1⟩
  obtain ⟨k0, hz1, hB⟩ := entry1 hb1
  have hw1 : w1.cell? ⟨0, 0, none⟩ = some (.iface 187 (.pointer (some a))) := (hB.cell (p := ⟨0, 0, none⟩) h0).trans hw
  have hw2 : ∀ o, (w1.alloc o).cell? ⟨0, 0, none⟩ = some (.iface 187 (.pointer (some a))) := fun o => cell?_alloc_old o hw1
  replace k0 := hid k0
  obtain ⟨c0, f0⟩ := blk k0.out; have z0 := (Array.getElem?_eq_some_iff.1 k0.out).1
  replace hB := hid hB
  clear hb1
  go_wp2_with fail
  refine (is_same a _).mono ?_
  rintro e w2 ⟨rfl, rfl⟩
  go_wp2
  exact bodyPost_ret (v := .tuple #[.agg #[.int .i64 0, .int .i64 0, .int .i64 0], .bool false]) (by simp [results, Tryd.results28, go_sem, c0, z0]) rfl ⟨rfl, (by repeat (first | (with_reducible exact Hid.out (by assumption)) | (with_reducible assumption) | (with_reducible exact Below.refl _ _) | (with_reducible refine Below.alloc ?_ (by first | omega | (simp; done) | (simp; omega)) _) | (with_reducible refine Below.setCell ?_ (by first | omega | (simp; done) | (simp; omega)) _) | (with_reducible refine Below.drew ?_) | (with_reducible refine below_drewN ?_ _) | exact Below.refl _ _ | assumption | exact Hid.out (by assumption)))⟩

set_option maxRecDepth 100000 in
set_option maxHeartbeats 2000000 in
/-- FormatOf, of a control byte of a format. -/
theorem FormatOf_yes (b : Int) (a : Addr) (w : World) (hw : w.cell? ⟨0, 0, none⟩ = some (.iface 187 (.pointer (some a)))) (hb : (0 ≤ b ∧ b ≤ 15) ∨ (24 ≤ b ∧ b ≤ 31)) :
    Calls Tryd.prog 28 #[.int .i64 b] w fun e w' => e = .returned (.tuple #[.agg #[.int .i64 (fofV b).bits, .int .i64 (fofV b).par, .int .i64 (fofV b).stop], .bool true]) ∧ Below w.heap.size w w' := by
  have h0 : 0 < w.heap.size := by
    simp only [World.cell?] at hw
    cases h : w.heap[0]? with
    | none => simp [h] at hw
    | some o => exact (Array.getElem?_eq_some_iff.1 h).1
  have key := fun w1 => formatFrom_in b w1 hb
  generalize (fofV b).bits = x at key ⊢
  generalize (fofV b).par = y at key ⊢
  generalize (fofV b).stop = z at key ⊢
  go_enter Tryd.func28, Tryd.ntmps28
  go_wp2_with fail
  refine (key _).mono ?_
  rintro e w1 ⟨rfl, hb1⟩
  obtain ⟨k0, hz1, hB⟩ := entry1 hb1
  have hw1 : w1.cell? ⟨0, 0, none⟩ = some (.iface 187 (.pointer (some a))) := (hB.cell (p := ⟨0, 0, none⟩) h0).trans hw
  have hw2 : ∀ o, (w1.alloc o).cell? ⟨0, 0, none⟩ = some (.iface 187 (.pointer (some a))) := fun o => cell?_alloc_old o hw1
  replace k0 := hid k0
  obtain ⟨c0, f0⟩ := blk k0.out; have z0 := (Array.getElem?_eq_some_iff.1 k0.out).1
  replace hB := hid hB
  clear hb1
  go_wp2_with fail
  refine (is_nil a _).mono ?_
  rintro e w2 ⟨rfl, rfl⟩
  go_wp2
  exact bodyPost_ret (v := .tuple #[.agg #[.int .i64 x, .int .i64 y, .int .i64 z], .bool true]) (by simp [results, Tryd.results28, go_sem, c0, z0]) rfl ⟨rfl, (by repeat (first | (with_reducible exact Hid.out (by assumption)) | (with_reducible assumption) | (with_reducible exact Below.refl _ _) | (with_reducible refine Below.alloc ?_ (by first | omega | (simp; done) | (simp; omega)) _) | (with_reducible refine Below.setCell ?_ (by first | omega | (simp; done) | (simp; omega)) _) | (with_reducible refine Below.drew ?_) | (with_reducible refine below_drewN ?_ _) | exact Below.refl _ _ | assumption | exact Hid.out (by assumption)))⟩


end Go.Proofs.YtkhggobpanfkfaaDoor
